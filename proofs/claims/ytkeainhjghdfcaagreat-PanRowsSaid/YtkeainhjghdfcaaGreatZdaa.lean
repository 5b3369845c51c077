/- Joined texts: PanP DecP GlyR WrapA GridP GridA GridB GridC GridD GridE GridF GrdR BackP BackA BackB BackC BackD BackQ IdxA WordP BackE BackF WordQ IdxP IdxG UnitP CurA. -/
import Derived.Test.YtkeainhjghdfcaaGreatRows
import Derived.Deep.QuietTactic
import Derived.BigQuiet
import Derived.Deep.RegionHeld3
import Derived.IntWalk
import Derived.WalkMore
import Derived.Test.YtkeainhjghdfcaaGreatZaaa
import Derived.Test.YtkeainhjghdfcaaGreatZcaa
import Derived.Test.YtkeainhjghdfcaaGreatZcad
import Derived.Test.YtkeainhjghdfcaaGreatZbac
import Derived.Test.YtkeainhjghdfcaaGreatZaba
/- Pan: plain law of what is shown in one row. No program is named here. -/
namespace Go.Proofs.YtkeainhjghdfcaaGreat

/-- columns of what stands from a on up to b -/
def sW (ws : List Int) (a b : Nat) : Int := ((ws.take b).drop a).sum
/-- columns at a place; one behind the last -/
def wdA (ws : List Int) (at' : Nat) : Int := ws[at']?.getD 1
/-- each is one or two -/
def W12 (ws : List Int) : Prop := ∀ x ∈ ws, x = 1 ∨ x = 2
theorem sW_self (ws : List Int) (a : Nat) : sW ws a a = 0 := by
  unfold sW
  rw [List.drop_eq_nil_of_le (by rw [List.length_take]; omega)]
  rfl
theorem sW_snoc {ws : List Int} {a b : Nat} (hab : a ≤ b) (hb : b < ws.length) : sW ws a (b + 1) = sW ws a b + wdA ws b := by
  unfold sW wdA
  rw [List.take_add_one, List.getElem?_eq_getElem hb, List.drop_append_of_le_length (by rw [List.length_take]; omega), List.sum_append]
  simp
theorem sW_cons {ws : List Int} {a b : Nat} (hab : a < b) (hb : b ≤ ws.length) : sW ws a b = wdA ws a + sW ws (a + 1) b := by
  unfold sW wdA
  have h1 : a < (ws.take b).length := by rw [List.length_take]; omega
  rw [List.drop_eq_getElem_cons h1, List.sum_cons, List.getElem_take, List.getElem?_eq_getElem (by omega)]
  rfl
theorem wdA_rng {ws : List Int} (h : W12 ws) (a : Nat) : 1 ≤ wdA ws a ∧ wdA ws a ≤ 2 := by
  unfold wdA
  by_cases ha : a < ws.length
  · rw [List.getElem?_eq_getElem ha]
    have := h _ (List.getElem_mem ha)
    show 1 ≤ ws[a] ∧ ws[a] ≤ 2
    omega
  · rw [List.getElem?_eq_none (by omega)]
    exact ⟨by decide, by decide⟩
theorem wdA_end (ws : List Int) : wdA ws ws.length = 1 := by
  unfold wdA
  rw [List.getElem?_eq_none (Nat.le_refl _)]
  rfl
theorem sum_rng {l : List Int} (h : W12 l) : (l.length : Int) ≤ l.sum ∧ l.sum ≤ 2 * (l.length : Int) := by
  induction l with
  | nil => simp
  | cons x l ih =>
    have h1 := h x List.mem_cons_self
    have h2 := ih (fun y hy => h y (List.mem_cons_of_mem _ hy))
    rw [List.sum_cons, List.length_cons]
    omega
theorem W12.sub {ws : List Int} (h : W12 ws) (a b : Nat) : W12 ((ws.take b).drop a) := fun x hx => h x (List.mem_of_mem_take (List.mem_of_mem_drop hx))
theorem sW_rng {ws : List Int} (h : W12 ws) (a b : Nat) : 0 ≤ sW ws a b ∧ sW ws a b ≤ 2 * (ws.length : Int) := by
  have h1 := sum_rng (h.sub a b)
  have h2 : ((ws.take b).drop a).length ≤ ws.length := by rw [List.length_drop, List.length_take]; omega
  unfold sW
  omega
theorem sW_add {ws : List Int} {a b : Nat} (h : W12 ws) : ∀ (n : Nat), a ≤ b → b + n ≤ ws.length → sW ws a (b + n) = sW ws a b + sW ws b (b + n)
  | 0, _, _ => by rw [Nat.add_zero, sW_self]; omega
  | n + 1, hab, hn => by
    have h1 := sW_add h n hab (by omega)
    rw [← Nat.add_assoc, sW_snoc (by omega) (by omega), sW_snoc (by omega) (by omega)]
    omega
theorem sW_split {ws : List Int} {a b c : Nat} (h : W12 ws) (hab : a ≤ b) (hbc : b ≤ c) (hc : c ≤ ws.length) : sW ws a c = sW ws a b + sW ws b c := by
  obtain ⟨n, rfl⟩ : ∃ n, c = b + n := ⟨c - b, by omega⟩
  exact sW_add h n hab hc
/-- from where on what stands ahead of a place has room -/
def frF (ws : List Int) (at' : Nat) (m : Int) : Nat → Nat → Nat
  | 0, f => f
  | n + 1, f => if m < sW ws f at' + wdA ws at' then frF ws at' m n (f + 1) else f
/-- how far there is room -/
def toF (ws : List Int) (fr : Nat) (m : Int) : Nat → Nat → Nat
  | 0, t => t
  | n + 1, t => if sW ws fr (t + 1) ≤ m then toF ws fr m n (t + 1) else t
section
variable {ws : List Int} {at' fr : Nat} {m : Int}
theorem fr_stop {n f : Nat} (h : ¬ m < sW ws f at' + wdA ws at') : frF ws at' m n f = f := by
  cases n with
  | zero => rfl
  | succ n => unfold frF; rw [if_neg h]
theorem fr_go {f : Nat} (hw : W12 ws) (hm : 2 ≤ m) (hf : f ≤ at') (h : m < sW ws f at' + wdA ws at') : f < at' ∧ frF ws at' m (at' - f) f = frF ws at' m (at' - (f + 1)) (f + 1) := by
  have hlt : f < at' := by
    refine Nat.lt_of_le_of_ne hf fun e => ?_
    subst e
    rw [sW_self] at h
    have := wdA_rng hw f
    omega
  refine ⟨hlt, ?_⟩
  obtain ⟨n, hn⟩ : ∃ n, at' - f = n + 1 := ⟨at' - f - 1, by omega⟩
  rw [hn]
  conv => lhs; unfold frF
  rw [if_pos h]
  congr 1
  omega
theorem fr_spec (hw : W12 ws) (hm : 2 ≤ m) : ∀ (n f : Nat), f + n = at' → frF ws at' m n f ≤ at' ∧ f ≤ frF ws at' m n f ∧ sW ws (frF ws at' m n f) at' + wdA ws at' ≤ m
  | 0, f, h => by
    rw [show frF ws at' m 0 f = f from rfl]
    have e : f = at' := by omega
    subst e
    have := wdA_rng hw f
    rw [sW_self]
    omega
  | n + 1, f, h => by
    unfold frF
    split
    · have := fr_spec hw hm n (f + 1) (by omega)
      omega
    · omega
theorem to_stop {n t : Nat} (h : ¬ sW ws fr (t + 1) ≤ m) : toF ws fr m n t = t := by
  cases n with
  | zero => rfl
  | succ n => unfold toF; rw [if_neg h]
theorem to_go {t : Nat} (hlt : t < ws.length) (h : sW ws fr (t + 1) ≤ m) : toF ws fr m (ws.length - t) t = toF ws fr m (ws.length - (t + 1)) (t + 1) := by
  obtain ⟨n, hn⟩ : ∃ n, ws.length - t = n + 1 := ⟨ws.length - t - 1, by omega⟩
  rw [hn]
  conv => lhs; unfold toF
  rw [if_pos h]
  congr 1
  omega
theorem to_end (t : Nat) (h : ws.length ≤ t) : toF ws fr m (ws.length - t) t = t := by
  rw [Nat.sub_eq_zero_of_le h]
  rfl
theorem to_spec : ∀ (n t : Nat), t + n = ws.length → sW ws fr t ≤ m → t ≤ toF ws fr m n t ∧ toF ws fr m n t ≤ ws.length ∧ sW ws fr (toF ws fr m n t) ≤ m ∧ (toF ws fr m n t < ws.length → m < sW ws fr (toF ws fr m n t + 1))
  | 0, t, h, hs => by
    rw [show toF ws fr m 0 t = t from rfl]
    exact ⟨Nat.le_refl _, by omega, hs, fun h => by omega⟩
  | n + 1, t, h, hs => by
    unfold toF
    split
    · rename_i h1
      have := to_spec n (t + 1) (by omega) h1
      exact ⟨by omega, this.2⟩
    · rename_i h1
      exact ⟨Nat.le_refl _, by omega, hs, fun _ => by omega⟩
end
/-- which glyphs are shown: from, up to, some left out ahead, behind, the cursor's column -/
structure ShP where
  fr : Nat
  tu : Nat
  ah : Bool
  be : Bool
  col : Int
def choF (ws : List Int) (at' : Nat) (cols : Int) : ShP :=
  if sW ws 0 ws.length + 1 ≤ cols then ⟨0, ws.length, false, false, sW ws 0 at'⟩
  else
    let ah := decide (cols - 1 < sW ws 0 at' + wdA ws at')
    let fr := if ah = true then frF ws at' (cols - 2) at' 0 else 0
    let room := if ah = true then cols - 1 else cols
    let col := cols - room + sW ws fr at'
    if sW ws fr ws.length + 1 ≤ room then ⟨fr, ws.length, ah, false, col⟩
    else ⟨fr, toF ws fr (room - 1) (ws.length - fr) fr, ah, true, col⟩
/-- the cursor's glyph is shown, whole; what is left out is marked -/
theorem cho_sees {ws : List Int} (hw : W12 ws) {at' : Nat} {cols : Int} (hat : at' ≤ ws.length) (hc : 4 ≤ cols) :
    let s := choF ws at' cols
    let first : Int := if s.ah = true then 1 else 0
    let last : Int := if s.be = true then cols - 1 else cols
    s.fr ≤ at' ∧ at' ≤ s.tu ∧ s.tu ≤ ws.length ∧ s.ah = decide (0 < s.fr) ∧ (s.be = true → s.tu ≠ at') ∧ (s.be = false → s.tu = ws.length) ∧ first ≤ s.col ∧ s.col + wdA ws at' ≤ last ∧ first + sW ws s.fr s.tu ≤ last := by
  have hwd := wdA_rng hw at'
  unfold choF
  by_cases h1 : sW ws 0 ws.length + 1 ≤ cols
  · rw [if_pos h1]
    have h2 := sW_split hw (Nat.zero_le at') hat (Nat.le_refl _)
    have h3 := sW_rng hw 0 at'
    have h4 := sW_rng hw at' ws.length
    refine ⟨Nat.zero_le _, hat, Nat.le_refl _, rfl, (fun h => nomatch h), fun _ => rfl, h3.1, ?_, ?_⟩
    · show sW ws 0 at' + wdA ws at' ≤ cols
      by_cases he : at' = ws.length
      · rw [he, wdA_end]; exact h1
      · have h5 := sW_cons (ws := ws) (a := at') (b := ws.length) (by omega) (Nat.le_refl _)
        have h6 := sW_rng hw (at' + 1) ws.length
        omega
    · show (0 : Int) + sW ws 0 ws.length ≤ cols
      omega
  · rw [if_neg h1]
    by_cases ha : cols - 1 < sW ws 0 at' + wdA ws at'
    · have h2 := fr_spec hw (m := cols - 2) (at' := at') (by omega) at' 0 (by omega)
      simp only [decide_eq_true ha, if_true]
      generalize hfr : frF ws at' (cols - 2) at' 0 = fr at h2 ⊢
      have hpos : 0 < fr := by
        refine Nat.pos_of_ne_zero fun e => ?_
        subst e
        omega
      have h3 := sW_rng hw fr at'
      by_cases h4 : sW ws fr ws.length + 1 ≤ cols - 1
      · rw [if_pos h4]
        refine ⟨h2.1, hat, Nat.le_refl _, by rw [decide_eq_true hpos], (fun h => nomatch h), fun _ => rfl, ?_, ?_, ?_⟩
        · show (1 : Int) ≤ cols - (cols - 1) + sW ws fr at'
          omega
        · show cols - (cols - 1) + sW ws fr at' + wdA ws at' ≤ cols
          omega
        · show (1 : Int) + sW ws fr ws.length ≤ cols
          omega
      · rw [if_neg h4]
        have h5 := to_spec (ws := ws) (fr := fr) (m := cols - 1 - 1) (ws.length - fr) fr (by omega) (by rw [sW_self]; omega)
        generalize toF ws fr (cols - 1 - 1) (ws.length - fr) fr = tt at h5 ⊢
        have h6 : at' < tt := by
          have hne : at' ≠ ws.length := fun e => by
            subst e
            rw [wdA_end] at h2
            omega
          have h7 := sW_snoc (ws := ws) h2.1 (by omega)
          refine Nat.lt_of_not_le fun h => ?_
          have h8 := sW_split hw (a := fr) (b := tt + 1) (c := at' + 1) (by omega) (by omega) (by omega)
          have h9 := sW_rng hw (tt + 1) (at' + 1)
          have := h5.2.2.2 (by omega)
          omega
        refine ⟨h2.1, by show at' ≤ tt; omega, h5.2.1, by rw [decide_eq_true hpos], (fun _ => by show tt ≠ at'; omega), (fun h => nomatch h), ?_, ?_, ?_⟩
        · show (1 : Int) ≤ cols - (cols - 1) + sW ws fr at'
          omega
        · show cols - (cols - 1) + sW ws fr at' + wdA ws at' ≤ cols - 1
          omega
        · show (1 : Int) + sW ws fr tt ≤ cols - 1
          omega
    · simp only [decide_eq_false ha, Bool.false_eq_true, if_false]
      have h3 := sW_rng hw 0 at'
      by_cases h4 : sW ws 0 ws.length + 1 ≤ cols
      · exact absurd h4 h1
      · rw [if_neg h4]
        have h5 := to_spec (ws := ws) (fr := 0) (m := cols - 1) (ws.length - 0) 0 (by omega) (by rw [sW_self]; omega)
        generalize toF ws 0 (cols - 1) (ws.length - 0) 0 = tt at h5 ⊢
        have h6 : at' < tt := by
          have hne : at' ≠ ws.length := fun e => by
            subst e
            rw [wdA_end] at ha
            omega
          have h7 := sW_snoc (ws := ws) (Nat.zero_le at') (by omega)
          refine Nat.lt_of_not_le fun h => ?_
          have h8 := sW_split hw (a := 0) (b := tt + 1) (c := at' + 1) (by omega) (by omega) (by omega)
          have h9 := sW_rng hw (tt + 1) (at' + 1)
          have := h5.2.2.2 (by omega)
          omega
        refine ⟨Nat.zero_le _, by show at' ≤ tt; omega, h5.2.1, rfl, (fun _ => by show tt ≠ at'; omega), (fun h => nomatch h), ?_, ?_, ?_⟩
        · show (0 : Int) ≤ cols - cols + sW ws 0 at'
          omega
        · show cols - cols + sW ws 0 at' + wdA ws at' ≤ cols - 1
          omega
        · show (0 : Int) + sW ws 0 tt ≤ cols - 1
          omega
end Go.Proofs.YtkeainhjghdfcaaGreat

/- Bytes read as scalars, plainly: the decoder and the document; what is put is read. No program is named here. -/
namespace Go.Proofs.YtkeainhjghdfcaaGreat

/-- a decoder: how many bytes more, so far, from where to where the next one may be, its value -/
structure Dc where
  nd : Int
  hv : Int
  lo : Int
  hi : Int
  vl : Int
def Dc0 : Dc := ⟨0, 0, 0, 0, 0⟩
/-- behind a first byte -/
def Dc1 (b : Int) : Dc := ⟨if b < 224 then 1 else if b < 240 then 2 else 3, 1, if b = 224 then 160 else if b = 240 then 144 else 128, if b = 237 then 159 else if b = 244 then 143 else 191, if b < 224 then b % 32 else if b < 240 then b % 16 else b % 8⟩
def fstD (b : Int) : Dc × List Int := if b < 128 then (Dc0, [b]) else if b < 194 ∨ 244 < b then (Dc0, [65533]) else (Dc1 b, [])
def fdD (d : Dc) (b : Int) : Dc × List Int :=
  if d.nd = 0 then fstD b else if b < d.lo ∨ d.hi < b then ((fstD b).1, 65533 :: (fstD b).2)
  else if d.nd = 1 then (Dc0, [d.vl * 64 + b % 64]) else (⟨d.nd - 1, d.hv + 1, 128, 191, d.vl * 64 + b % 64⟩, [])
def endD (d : Dc) : List Int := if d.nd = 0 then [] else [65533]
/-- what a decoder tells of bytes -/
def decS (d : Dc) : List Int → List Int
  | [] => endD d
  | b :: l => (fdD d b).2 ++ decS (fdD d b).1 l
def stD (d : Dc) : List Int → Dc
  | [] => d
  | b :: l => stD (fdD d b).1 l
def outD (d : Dc) : List Int → List Int
  | [] => []
  | b :: l => (fdD d b).2 ++ outD (fdD d b).1 l
theorem decS_out : ∀ (l : List Int) (d : Dc), decS d l = outD d l ++ endD (stD d l)
  | [], d => rfl
  | b :: l, d => by
    show (fdD d b).2 ++ decS (fdD d b).1 l = (fdD d b).2 ++ outD (fdD d b).1 l ++ endD (stD (fdD d b).1 l)
    rw [decS_out l, List.append_assoc]
theorem stD_snoc : ∀ (l : List Int) (d : Dc) (b : Int), stD d (l ++ [b]) = (fdD (stD d l) b).1
  | [], _, _ => rfl
  | x :: l, d, b => stD_snoc l (fdD d x).1 b
theorem outD_snoc : ∀ (l : List Int) (d : Dc) (b : Int), outD d (l ++ [b]) = outD d l ++ (fdD (stD d l) b).2
  | [], d, b => by show (fdD d b).2 ++ [] = [] ++ _; rw [List.append_nil]; rfl
  | x :: l, d, b => by
    show (fdD d x).2 ++ outD (fdD d x).1 (l ++ [b]) = (fdD d x).2 ++ outD (fdD d x).1 l ++ _
    rw [outD_snoc l, List.append_assoc]
    rfl
section
variable {d : Dc} {b : Int} {l : List Int}
theorem dec_nil (h : d.nd ≠ 0) : decS d [] = [65533] := by unfold decS endD; rw [if_neg h]
theorem dec_nil0 : decS Dc0 [] = [] := rfl
theorem dec_0 (b : Int) (l : List Int) : decS Dc0 (b :: l) = (fstD b).2 ++ decS (fstD b).1 l := by
  show (fdD Dc0 b).2 ++ decS (fdD Dc0 b).1 l = _
  unfold fdD
  rw [if_pos (show Dc0.nd = 0 from rfl)]
theorem dec_bad (h : d.nd ≠ 0) (hb : b < d.lo ∨ d.hi < b) : decS d (b :: l) = 65533 :: decS Dc0 (b :: l) := by
  rw [dec_0]
  show (fdD d b).2 ++ decS (fdD d b).1 l = _
  unfold fdD
  rw [if_neg h, if_pos hb]
  rfl
theorem dec_last (h : d.nd = 1) (hb : ¬ (b < d.lo ∨ d.hi < b)) : decS d (b :: l) = (d.vl * 64 + b % 64) :: decS Dc0 l := by
  show (fdD d b).2 ++ decS (fdD d b).1 l = _
  unfold fdD
  rw [if_neg (by omega), if_neg hb, if_pos h]
  rfl
theorem dec_more (h : d.nd ≠ 0) (h1 : d.nd ≠ 1) (hb : ¬ (b < d.lo ∨ d.hi < b)) : decS d (b :: l) = decS ⟨d.nd - 1, d.hv + 1, 128, 191, d.vl * 64 + b % 64⟩ l := by
  show (fdD d b).2 ++ decS (fdD d b).1 l = _
  unfold fdD
  rw [if_neg h, if_neg hb, if_neg h1]
  rfl
theorem dec_low (h : b < 128) : decS Dc0 (b :: l) = b :: decS Dc0 l := by
  rw [dec_0]; unfold fstD; rw [if_pos h]; rfl
theorem dec_none (h : ¬ b < 128) (h1 : b < 194 ∨ 244 < b) : decS Dc0 (b :: l) = 65533 :: decS Dc0 l := by
  rw [dec_0]; unfold fstD; rw [if_neg h, if_pos h1]; rfl
theorem dec_one (h : ¬ b < 128) (h1 : ¬ (b < 194 ∨ 244 < b)) : decS Dc0 (b :: l) = decS (Dc1 b) l := by
  rw [dec_0]; unfold fstD; rw [if_neg h, if_neg h1]; rfl
end

/-- may a byte stand at a place of a row that begins so? -/
def mayB (c : Int) (i : Nat) (b : Int) : Bool :=
  if i = 0 then decide (c < 128) || (decide (194 ≤ c) && decide (c ≤ 244))
  else if i = 1 ∧ c = 224 then decide (160 ≤ b) && decide (b ≤ 191)
  else if i = 1 ∧ c = 237 then decide (128 ≤ b) && decide (b ≤ 159)
  else if i = 1 ∧ c = 240 then decide (144 ≤ b) && decide (b ≤ 191)
  else if i = 1 ∧ c = 244 then decide (128 ≤ b) && decide (b ≤ 143)
  else decide (128 ≤ b) && decide (b ≤ 191)
def longN (c : Int) : Nat := if c < 128 then 1 else if c < 224 then 2 else if c < 240 then 3 else 4
def rowGo (c : Int) : Nat → List Int → Nat
  | i, [] => i
  | i, b :: l => if i < longN c ∧ mayB c i b = true then rowGo c (i + 1) l else i
/-- how many bytes at the beginning are one of a row -/
def rowN (s : List Int) : Nat := rowGo (s.headD 0) 0 s
def wholeB (s : List Int) : Bool := decide (0 < rowN s) && decide (rowN s = longN (s.headD 0))
/-- of a whole row -/
def valN : List Int → Int
  | [] => 0
  | [c] => c
  | c :: l => l.foldl (fun v b => 64 * v + b - 128) (if l.length = 2 then c - 224 else if l.length = 3 then c - 240 else c - 192)
def docF : Nat → List Int → List Int
  | 0, _ => []
  | _ + 1, [] => []
  | n + 1, b :: l => (if wholeB (b :: l) = true then valN ((b :: l).take (rowN (b :: l))) else 65533) :: docF n ((b :: l).drop (max (rowN (b :: l)) 1))
/-- the document's scalars of bytes -/
def docD (s : List Int) : List Int := docF s.length s
theorem docF_fuel : ∀ (n m : Nat) (s : List Int), s.length ≤ n → s.length ≤ m → docF n s = docF m s
  | n, m, [], _, _ => by cases n <;> cases m <;> rfl
  | 0, m, b :: l, h, _ => by simp at h
  | n + 1, 0, b :: l, _, h => by simp at h
  | n + 1, m + 1, b :: l, h1, h2 => by
    simp only [List.length_cons] at h1 h2
    unfold docF
    rw [docF_fuel n m _ (by rw [List.length_drop, List.length_cons]; omega) (by rw [List.length_drop, List.length_cons]; omega)]
theorem docD_cons (b : Int) (l : List Int) : docD (b :: l) = (if wholeB (b :: l) = true then valN ((b :: l).take (rowN (b :: l))) else 65533) :: docD ((b :: l).drop (max (rowN (b :: l)) 1)) := by
  unfold docD
  show docF (l.length + 1) (b :: l) = _
  conv => lhs; unfold docF
  rw [docF_fuel l.length _ _ (by rw [List.length_drop, List.length_cons]; omega) (Nat.le_refl _)]
theorem rowGo_nil (c : Int) (i : Nat) : rowGo c i [] = i := rfl
theorem rowGo_yes {c : Int} {i : Nat} {b : Int} {l : List Int} (h : i < longN c ∧ mayB c i b = true) : rowGo c i (b :: l) = rowGo c (i + 1) l := by
  conv => lhs; unfold rowGo
  rw [if_pos h]
theorem rowGo_no {c : Int} {i : Nat} {b : Int} {l : List Int} (h : ¬ (i < longN c ∧ mayB c i b = true)) : rowGo c i (b :: l) = i := by
  conv => lhs; unfold rowGo
  rw [if_neg h]
theorem rowGo_end (c : Int) (s : List Int) : rowGo c (longN c) s = longN c := by
  cases s with
  | nil => rfl
  | cons b l => exact rowGo_no (by omega)
theorem whole_of {b : Int} {l : List Int} {n : Nat} (h : rowN (b :: l) = n) : wholeB (b :: l) = (decide (0 < n) && decide (n = longN b)) := by
  unfold wholeB; rw [h]; rfl
theorem doc_bad {b : Int} {l : List Int} {n : Nat} (h : rowN (b :: l) = n) (hn : n < longN b) : docD (b :: l) = 65533 :: docD ((b :: l).drop (max n 1)) := by
  rw [docD_cons, whole_of h, h, if_neg (by simp; omega)]
theorem doc_whole {b : Int} {l : List Int} (h : rowN (b :: l) = longN b) : docD (b :: l) = valN ((b :: l).take (longN b)) :: docD ((b :: l).drop (longN b)) := by
  have h1 : 0 < longN b := by unfold longN; split; · omega
                              split; · omega
                              split <;> omega
  rw [docD_cons, whole_of h, h, if_pos (by simp; omega), Nat.max_eq_left (by omega)]
theorem row_1 {b : Int} (h : b < 128 ∨ (194 ≤ b ∧ b ≤ 244)) (l : List Int) : rowN (b :: l) = rowGo b 1 l := by
  unfold rowN
  refine rowGo_yes ⟨?_, ?_⟩
  · show 0 < longN b
    unfold longN; split; · omega
    split; · omega
    split <;> omega
  · unfold mayB; rw [if_pos rfl]; simp; omega
/-- may the second byte be it? -/
theorem may_1 {c b : Int} : mayB c 1 b = true ↔ ¬ (b < (Dc1 c).lo ∨ (Dc1 c).hi < b) := by
  unfold mayB Dc1
  rw [if_neg (by omega)]
  by_cases h1 : c = 224
  · subst h1; simp
  · rw [if_neg (fun h => h1 h.2)]
    by_cases h2 : c = 237
    · subst h2; simp
    · rw [if_neg (fun h => h2 h.2)]
      by_cases h3 : c = 240
      · subst h3; simp
      · rw [if_neg (fun h => h3 h.2)]
        by_cases h4 : c = 244
        · subst h4; simp
        · rw [if_neg (fun h => h4 h.2)]
          simp only [if_neg h1, if_neg h2, if_neg h3, if_neg h4, Bool.and_eq_true, decide_eq_true_eq]
          omega
theorem may_2 {c b : Int} {i : Nat} (hi : 2 ≤ i) : mayB c i b = true ↔ 128 ≤ b ∧ b ≤ 191 := by
  unfold mayB
  rw [if_neg (by omega), if_neg (by omega), if_neg (by omega), if_neg (by omega), if_neg (by omega), Bool.and_eq_true, decide_eq_true_eq, decide_eq_true_eq]
/-- what the decoder tells is what the document tells -/
theorem dec_doc : ∀ (n : Nat) (s : List Int), s.length ≤ n → (∀ x ∈ s, 0 ≤ x ∧ x ≤ 255) → decS Dc0 s = docD s
  | _, [], _, _ => rfl
  | 0, b :: l, h, _ => by simp at h
  | n + 1, b :: l, h, hb => by
    have hl : l.length ≤ n := by simpa using h
    have ih : ∀ t : List Int, (∃ k, 1 ≤ k ∧ t = (b :: l).drop k) → decS Dc0 t = docD t := by
      rintro t ⟨k, hk, rfl⟩
      refine dec_doc n _ (by rw [List.length_drop, List.length_cons]; omega) (fun x hx => hb x (List.mem_of_mem_drop hx))
    by_cases h1 : b < 128
    · rw [dec_low h1, doc_whole (by rw [row_1 (.inl h1), show longN b = 1 by unfold longN; rw [if_pos h1]]; have := rowGo_end b l; rw [show longN b = 1 by unfold longN; rw [if_pos h1]] at this; exact this), show longN b = 1 by unfold longN; rw [if_pos h1]]
      rw [ih l ⟨1, Nat.le_refl _, rfl⟩]
      rfl
    · by_cases h2 : b < 194 ∨ 244 < b
      · have hr : rowN (b :: l) = 0 := by
          unfold rowN
          refine rowGo_no fun h => ?_
          have h3 := h.2
          unfold mayB at h3
          rw [if_pos rfl, List.headD_cons] at h3
          simp at h3
          omega
        rw [dec_none h1 h2, doc_bad hr (by unfold longN; split; · omega
                                           split; · omega
                                           split <;> omega)]
        rw [ih l ⟨1, Nat.le_refl _, rfl⟩]
        rfl
      · have hr := row_1 (b := b) (.inr (by omega)) l
        rw [dec_one h1 h2]
        have hL : longN b = (Dc1 b).nd.toNat + 1 := by
          unfold longN Dc1
          rw [if_neg h1]
          split
          · rfl
          · split <;> rfl
        have hnd : (Dc1 b).nd = 1 ∨ (Dc1 b).nd = 2 ∨ (Dc1 b).nd = 3 := by
          unfold Dc1
          show (if b < 224 then (1 : Int) else if b < 240 then 2 else 3) = 1 ∨ _
          split
          · exact .inl rfl
          · split
            · exact .inr (.inl rfl)
            · exact .inr (.inr rfl)
        have hv : (Dc1 b).vl = if (Dc1 b).nd = 1 then b - 192 else if (Dc1 b).nd = 2 then b - 224 else b - 240 := by
          have := hb b List.mem_cons_self
          unfold Dc1
          show (if b < 224 then b % 32 else if b < 240 then b % 16 else b % 8) = if (if b < 224 then (1 : Int) else if b < 240 then 2 else 3) = 1 then b - 192 else if (if b < 224 then (1 : Int) else if b < 240 then 2 else 3) = 2 then b - 224 else b - 240
          by_cases h4 : b < 224
          · rw [if_pos h4, if_pos h4, if_pos rfl]; omega
          · rw [if_neg h4, if_neg h4]
            by_cases h5 : b < 240
            · rw [if_pos h5, if_pos h5, if_neg (by decide), if_pos rfl]; omega
            · rw [if_neg h5, if_neg h5, if_neg (by decide), if_neg (by decide)]; omega
        cases l with
        | nil =>
          rw [dec_nil (by omega), doc_bad (n := 1) hr (by omega)]
          rfl
        | cons b1 l =>
          have hb1 := hb b1 (by simp)
          by_cases m1 : mayB b 1 b1 = true
          · rw [rowGo_yes ⟨by omega, m1⟩] at hr
            rcases hnd with e | e | e
            · have hl2 : longN b = 2 := by rw [hL, e]; rfl
              rw [dec_last e (may_1.1 m1), doc_whole (by rw [hr]; have := rowGo_end b l; rw [hl2] at this ⊢; exact this), hl2]
              rw [ih l ⟨2, by omega, rfl⟩, hv, if_pos e]
              have : valN ((b :: b1 :: l).take 2) = 64 * (b - 192) + b1 - 128 := rfl
              rw [this]
              have := may_1.1 m1
              have hlh : 128 ≤ (Dc1 b).lo ∧ (Dc1 b).hi ≤ 191 := by
                unfold Dc1
                show 128 ≤ (if b = 224 then (160 : Int) else if b = 240 then 144 else 128) ∧ (if b = 237 then (159 : Int) else if b = 244 then 143 else 191) ≤ 191
                constructor
                · split; · decide
                  split <;> decide
                · split; · decide
                  split <;> decide
              rw [show (b - 192) * 64 + b1 % 64 = 64 * (b - 192) + b1 - 128 by omega]
              rfl
            all_goals
              have hlh : 128 ≤ (Dc1 b).lo ∧ (Dc1 b).hi ≤ 191 := by
                unfold Dc1
                show 128 ≤ (if b = 224 then (160 : Int) else if b = 240 then 144 else 128) ∧ (if b = 237 then (159 : Int) else if b = 244 then 143 else 191) ≤ 191
                constructor
                · split; · decide
                  split <;> decide
                · split; · decide
                  split <;> decide
              have m1' := may_1.1 m1
              rw [dec_more (by omega) (by omega) m1', hv]
              cases l with
              | nil =>
                rw [dec_nil (by show (Dc1 b).nd - 1 ≠ 0; omega), doc_bad (n := 2) hr (by omega)]
                rfl
              | cons b2 l =>
                by_cases m2 : 128 ≤ b2 ∧ b2 ≤ 191
                · rw [rowGo_yes ⟨by omega, (may_2 (Nat.le_refl _)).2 m2⟩] at hr
                  first
                    | (have hl3 : longN b = 3 := by rw [hL, e]; rfl
                       rw [dec_last (by show (Dc1 b).nd - 1 = 1; omega) (by show ¬ (b2 < 128 ∨ 191 < b2); omega), doc_whole (by rw [hr]; have := rowGo_end b l; rw [hl3] at this ⊢; exact this), hl3]
                       rw [ih l ⟨3, by omega, rfl⟩, if_neg (by omega), if_pos e]
                       have hval : valN ((b :: b1 :: b2 :: l).take 3) = 64 * (64 * (b - 224) + b1 - 128) + b2 - 128 := rfl
                       rw [hval]
                       rw [show ((b - 224) * 64 + b1 % 64) * 64 + b2 % 64 = 64 * (64 * (b - 224) + b1 - 128) + b2 - 128 by omega]
                       rfl)
                    | (rw [dec_more (by show (Dc1 b).nd - 1 ≠ 0; omega) (by show (Dc1 b).nd - 1 ≠ 1; omega) (by show ¬ (b2 < 128 ∨ 191 < b2); omega)]
                       cases l with
                       | nil =>
                         rw [dec_nil (by show (Dc1 b).nd - 1 - 1 ≠ 0; omega), doc_bad (n := 3) hr (by omega)]
                         rfl
                       | cons b3 l =>
                         by_cases m3 : 128 ≤ b3 ∧ b3 ≤ 191
                         · rw [rowGo_yes ⟨by omega, (may_2 (by omega)).2 m3⟩] at hr
                           have hl4 : longN b = 4 := by rw [hL, e]; rfl
                           rw [dec_last (by show (Dc1 b).nd - 1 - 1 = 1; omega) (by show ¬ (b3 < 128 ∨ 191 < b3); omega), doc_whole (by rw [hr]; have := rowGo_end b l; rw [hl4] at this ⊢; exact this), hl4]
                           rw [ih l ⟨4, by omega, rfl⟩, if_neg (by omega), if_neg (by omega)]
                           have hval : valN ((b :: b1 :: b2 :: b3 :: l).take 4) = 64 * (64 * (64 * (b - 240) + b1 - 128) + b2 - 128) + b3 - 128 := rfl
                           rw [hval]
                           rw [show (((b - 240) * 64 + b1 % 64) * 64 + b2 % 64) * 64 + b3 % 64 = 64 * (64 * (64 * (b - 240) + b1 - 128) + b2 - 128) + b3 - 128 by omega]
                           rfl
                         · rw [rowGo_no (fun h => m3 ((may_2 (by omega)).1 h.2))] at hr
                           rw [dec_bad (by show (Dc1 b).nd - 1 - 1 ≠ 0; omega) (by show b3 < 128 ∨ 191 < b3; omega), doc_bad (n := 3) hr (by omega), ih (b3 :: l) ⟨3, by omega, rfl⟩]
                           rfl)
                · rw [rowGo_no (fun h => m2 ((may_2 (Nat.le_refl _)).1 h.2))] at hr
                  rw [dec_bad (by show (Dc1 b).nd - 1 ≠ 0; omega) (by show b2 < 128 ∨ 191 < b2; omega), doc_bad (n := 2) hr (by omega), ih (b2 :: l) ⟨2, by omega, rfl⟩]
                  rfl
          · rw [rowGo_no (fun h => m1 h.2)] at hr
            have hbad : b1 < (Dc1 b).lo ∨ (Dc1 b).hi < b1 := by
              by_cases q : b1 < (Dc1 b).lo ∨ (Dc1 b).hi < b1
              · exact q
              · exact absurd (may_1.2 q) m1
            rw [dec_bad (by omega) hbad, doc_bad (n := 1) hr (by omega), ih (b1 :: l) ⟨1, by omega, rfl⟩]
            rfl
/-- a scalar's bytes are read as it -/
theorem dec_put {r : Int} (h : validB r = true) (l : List Int) : decS Dc0 (putN r ++ l) = r :: decS Dc0 l := by
  have hv := validB_iff.1 h
  unfold putN
  rw [fixR_ok h]
  split
  · rename_i h1
    exact dec_low h1
  · split
    · show decS Dc0 ((192 + r / 64) :: (128 + r % 64) :: l) = _
      have e1 : (Dc1 (192 + r / 64)).nd = 1 := by unfold Dc1; show (if _ then (1 : Int) else _) = 1; rw [if_pos (by omega)]
      have e2 : (Dc1 (192 + r / 64)).vl = r / 64 := by unfold Dc1; show (if _ then _ else _) = _; rw [if_pos (by omega)]; omega
      have e3 : ¬ ((128 + r % 64) < (Dc1 (192 + r / 64)).lo ∨ (Dc1 (192 + r / 64)).hi < (128 + r % 64)) := by
        unfold Dc1
        show ¬ ((128 + r % 64) < (if _ then (160 : Int) else if _ then 144 else 128) ∨ (if _ then (159 : Int) else if _ then 143 else 191) < (128 + r % 64))
        rw [if_neg (by omega), if_neg (by omega), if_neg (by omega), if_neg (by omega)]
        omega
      rw [dec_one (by omega) (by omega), dec_last e1 e3, e2, show r / 64 * 64 + (128 + r % 64) % 64 = r by omega]
    · split
      · show decS Dc0 ((224 + r / 4096) :: (128 + r / 64 % 64) :: (128 + r % 64) :: l) = _
        have e1 : (Dc1 (224 + r / 4096)).nd = 2 := by unfold Dc1; show (if _ then (1 : Int) else if _ then 2 else 3) = 2; rw [if_neg (by omega), if_pos (by omega)]
        have e2 : (Dc1 (224 + r / 4096)).vl = r / 4096 := by unfold Dc1; show (if _ then _ else if _ then _ else _) = _; rw [if_neg (by omega), if_pos (by omega)]; omega
        have e3 : ¬ ((128 + r / 64 % 64) < (Dc1 (224 + r / 4096)).lo ∨ (Dc1 (224 + r / 4096)).hi < (128 + r / 64 % 64)) := by
          unfold Dc1
          show ¬ ((128 + r / 64 % 64) < (if _ then (160 : Int) else if _ then 144 else 128) ∨ (if _ then (159 : Int) else if _ then 143 else 191) < (128 + r / 64 % 64))
          split
          · rw [if_neg (by omega), if_neg (by omega)]; omega
          · rw [if_neg (by omega)]
            split
            · omega
            · rw [if_neg (by omega)]; omega
        rw [dec_one (by omega) (by omega), dec_more (by omega) (by omega) e3, e2]
        rw [dec_last (by show (Dc1 (224 + r / 4096)).nd - 1 = 1; omega) (by show ¬ ((128 + r % 64) < 128 ∨ 191 < (128 + r % 64)); omega)]
        show ((r / 4096 * 64 + (128 + r / 64 % 64) % 64) * 64 + (128 + r % 64) % 64) :: _ = _
        rw [show (r / 4096 * 64 + (128 + r / 64 % 64) % 64) * 64 + (128 + r % 64) % 64 = r by omega]
      · show decS Dc0 ((240 + r / 262144) :: (128 + r / 4096 % 64) :: (128 + r / 64 % 64) :: (128 + r % 64) :: l) = _
        have e1 : (Dc1 (240 + r / 262144)).nd = 3 := by unfold Dc1; show (if _ then (1 : Int) else if _ then 2 else 3) = 3; rw [if_neg (by omega), if_neg (by omega)]
        have e2 : (Dc1 (240 + r / 262144)).vl = r / 262144 := by unfold Dc1; show (if _ then _ else if _ then _ else _) = _; rw [if_neg (by omega), if_neg (by omega)]; omega
        have e3 : ¬ ((128 + r / 4096 % 64) < (Dc1 (240 + r / 262144)).lo ∨ (Dc1 (240 + r / 262144)).hi < (128 + r / 4096 % 64)) := by
          unfold Dc1
          show ¬ ((128 + r / 4096 % 64) < (if _ then (160 : Int) else if _ then 144 else 128) ∨ (if _ then (159 : Int) else if _ then 143 else 191) < (128 + r / 4096 % 64))
          rw [if_neg (show ¬ 240 + r / 262144 = 224 by omega), if_neg (show ¬ 240 + r / 262144 = 237 by omega)]
          split
          · rw [if_neg (by omega)]; omega
          · split <;> omega
        rw [dec_one (by omega) (by omega), dec_more (by omega) (by omega) e3, e2]
        rw [dec_more (by show (Dc1 (240 + r / 262144)).nd - 1 ≠ 0; omega) (by show (Dc1 (240 + r / 262144)).nd - 1 ≠ 1; omega) (by show ¬ ((128 + r / 64 % 64) < 128 ∨ 191 < (128 + r / 64 % 64)); omega)]
        rw [dec_last (by show (Dc1 (240 + r / 262144)).nd - 1 - 1 = 1; omega) (by show ¬ ((128 + r % 64) < 128 ∨ 191 < (128 + r % 64)); omega)]
        show (((r / 262144 * 64 + (128 + r / 4096 % 64) % 64) * 64 + (128 + r / 64 % 64) % 64) * 64 + (128 + r % 64) % 64) :: _ = _
        rw [show ((r / 262144 * 64 + (128 + r / 4096 % 64) % 64) * 64 + (128 + r / 64 % 64) % 64) * 64 + (128 + r % 64) % 64 = r by omega]
/-- the bytes of scalars are read as these -/
theorem dec_enc : ∀ (l : List Int), (∀ r ∈ l, validB r = true) → decS Dc0 (encN l) = l
  | [], _ => rfl
  | r :: l, h => by
    show decS Dc0 ((r :: l).flatMap putN) = _
    rw [List.flatMap_cons, dec_put (h r List.mem_cons_self)]
    have := dec_enc l (fun x hx => h x (List.mem_cons_of_mem _ hx))
    unfold encN at this
    rw [this]
end Go.Proofs.YtkeainhjghdfcaaGreat

/- Glyphs read again, plainly: a line of glyphs, sent as bytes, is taken for these. No program is named here. -/
namespace Go.Proofs.YtkeainhjghdfcaaGreat
open Go.RowKit

/-- a state behind scalars -/
def stF (T : Tab) : St → List Int → St
  | st, [] => st
  | st, r :: l => stF T (nextSt T st r) l
/-- no cluster begins within -/
def noCut (T : Tab) : St → List Int → Prop
  | _, [] => True
  | st, r :: l => cutB T st r = false ∧ noCut T (nextSt T st r) l
/-- one cluster, from a fresh start -/
def solid (T : Tab) (g : List Int) : Prop := ∃ a l, g = a :: l ∧ noCut T (nextSt T St0 a) l
/-- clusters, one behind the other, behind a state -/
def ChG (T : Tab) : St → List (List Int) → Prop
  | _, [] => True
  | st, g :: L => solid T g ∧ cutB T st (g.headD 0) = true ∧ ChG T (stF T St0 g) L
def lastS (T : Tab) : St → List (List Int) → St
  | st, [] => st
  | _, g :: L => lastS T (stF T St0 g) L
theorem stF_app (T : Tab) : ∀ (a : List Int) (st : St) (b : List Int), stF T st (a ++ b) = stF T (stF T st a) b
  | [], _, _ => rfl
  | x :: a, st, b => stF_app T a (nextSt T st x) b
theorem noCut_app (T : Tab) : ∀ (a : List Int) (st : St) (b : List Int), noCut T st (a ++ b) ↔ noCut T st a ∧ noCut T (stF T st a) b
  | [], _, _ => ⟨fun h => ⟨trivial, h⟩, fun h => h.2⟩
  | x :: a, st, b => by
    have ih := noCut_app T a (nextSt T st x) b
    show (_ ∧ noCut T (nextSt T st x) (a ++ b)) ↔ (_ ∧ noCut T (nextSt T st x) a) ∧ _
    rw [ih, and_assoc]
    rfl
theorem ChG_app (T : Tab) : ∀ (A : List (List Int)) (st : St) (B : List (List Int)), ChG T st (A ++ B) ↔ ChG T st A ∧ ChG T (lastS T st A) B
  | [], _, _ => ⟨fun h => ⟨trivial, h⟩, fun h => h.2⟩
  | g :: A, st, B => by
    have ih := ChG_app T A (stF T St0 g) B
    show (solid T g ∧ _ ∧ ChG T (stF T St0 g) (A ++ B)) ↔ (solid T g ∧ _ ∧ ChG T (stF T St0 g) A) ∧ ChG T (lastS T (stF T St0 g) A) B
    rw [ih]
    exact ⟨fun h => ⟨⟨h.1, h.2.1, h.2.2.1⟩, h.2.2.2⟩, fun h => ⟨h.1.1, h.1.2.1, h.1.2.2, h.2⟩⟩
theorem lastS_app (T : Tab) : ∀ (A : List (List Int)) (st : St) (B : List (List Int)), lastS T st (A ++ B) = lastS T (lastS T st A) B
  | [], _, _ => rfl
  | g :: A, _, B => lastS_app T A (stF T St0 g) B
theorem cut_0 (T : Tab) (r : Int) : cutB T St0 r = true := rfl
theorem ChG.start {T : Tab} {st : St} {L : List (List Int)} (h : ChG T st L) : ChG T St0 L := by
  cases L with
  | nil => trivial
  | cons g L => exact ⟨h.1, cut_0 T _, h.2.2⟩
theorem ChG.sub {T : Tab} {st : St} {L : List (List Int)} (h : ChG T st L) (a n : Nat) : ChG T St0 ((L.drop a).take n) := by
  have h1 : ChG T St0 (L.drop a) := by
    rw [← List.take_append_drop a L, ChG_app] at h
    exact h.2.start
  rw [← List.take_append_drop n (L.drop a), ChG_app] at h1
  exact h1.1
theorem run_solid (T : Tab) : ∀ (l : List Int) (st : St) (rest : List Int), noCut T st l → (rest = [] ∨ ∃ h t, rest = h :: t ∧ cutB T (stF T st l) h = true) → runLen T st (l ++ rest) = l.length
  | [], st, rest, _, h => by
    rcases h with rfl | ⟨h, t, rfl, hc⟩
    · rfl
    · have hc' : cutB T st h = true := hc
      show (if cutB T st h then 0 else _) = 0
      rw [if_pos hc']
  | x :: l, st, rest, hn, h => by
    show (if cutB T st x then 0 else runLen T (nextSt T st x) (l ++ rest) + 1) = _
    rw [hn.1, if_neg (by decide), run_solid T l (nextSt T st x) rest hn.2 h]
    rfl
theorem solid_ne {T : Tab} {g : List Int} (h : solid T g) : g ≠ [] := by
  obtain ⟨a, l, rfl, _⟩ := h
  simp
/-- clusters, one behind the other, are found again -/
theorem clus_chain (T : Tab) : ∀ (L : List (List Int)), ChG T St0 L → clus T L.flatten = L
  | [], _ => rfl
  | g :: L, h => by
    obtain ⟨⟨a, l, rfl, hn⟩, _, h2⟩ := h
    have hnx : nx T ((a :: l) ++ L.flatten) = (a :: l).length := by
      show runLen T (nextSt T St0 a) (l ++ L.flatten) + 1 = l.length + 1
      rw [run_solid T l _ _ hn ?_]
      cases L with
      | nil => exact .inl rfl
      | cons k L =>
        obtain ⟨⟨b, m, rfl, _⟩, hc, _⟩ := h2
        exact .inr ⟨b, m ++ L.flatten, rfl, hc⟩
    have ih := clus_chain T L h2.start
    rw [List.flatten_cons, clus_step T (by simp), hnx, List.take_left, List.drop_left, ih]
theorem run_cut (T : Tab) : ∀ (l : List Int) (st : St), noCut T st (l.take (runLen T st l)) ∧ (∀ h, l[runLen T st l]? = some h → cutB T (stF T st (l.take (runLen T st l))) h = true)
  | [], st => ⟨trivial, fun h hh => by simp at hh⟩
  | x :: l, st => by
    by_cases hc : cutB T st x = true
    · have e : runLen T st (x :: l) = 0 := by
        show (if cutB T st x then 0 else _) = 0
        rw [if_pos hc]
      rw [e]
      refine ⟨trivial, fun h hh => ?_⟩
      have e : x = h := by simpa using hh
      subst e
      exact hc
    · have e : runLen T st (x :: l) = runLen T (nextSt T st x) l + 1 := by
        show (if cutB T st x then 0 else _) = _
        rw [if_neg hc]
      rw [e, List.take_succ_cons]
      have ih := run_cut T l (nextSt T st x)
      exact ⟨⟨Bool.eq_false_iff.2 hc, ih.1⟩, fun h hh => ih.2 h (by simpa using hh)⟩
/-- a text's clusters are such -/
theorem ch_clus (T : Tab) : ∀ (n : Nat) (s : List Int) (st : St), s.length ≤ n → (∀ h, s[0]? = some h → cutB T st h = true) → ChG T st (clus T s)
  | n, [], _, _, _ => by rw [clus_nil]; trivial
  | 0, a :: l, _, h, _ => by simp at h
  | n + 1, a :: l, st, h, hc => by
    rw [clus_step T (by simp)]
    have hr := run_cut T l (nextSt T St0 a)
    have hnx : nx T (a :: l) = runLen T (nextSt T St0 a) l + 1 := rfl
    rw [hnx, List.take_succ_cons, List.drop_succ_cons]
    refine ⟨⟨a, _, rfl, hr.1⟩, hc a rfl, ch_clus T n _ _ (by rw [List.length_drop]; simp at h; omega) fun k hk => ?_⟩
    rw [List.getElem?_drop, Nat.add_zero] at hk
    exact hr.2 k hk
/-- a scalar with no properties -/
structure dull (T : Tab) (x : Int) : Prop where
  b : T.b x = 0
  p : T.p x = false
  c : T.c x = 0
def StD : St := ⟨true, 0, 0, 0, false⟩
theorem dull_next {T : Tab} {x : Int} (h : dull T x) (st : St) : nextSt T st x = StD := by
  unfold nextSt nextP nextC
  rw [h.b, h.p, h.c, if_neg (by decide), if_neg (by omega), if_neg (by omega), if_neg (by decide), if_neg (by omega), if_neg (by omega)]
  rfl
theorem dull_solid {T : Tab} (x : Int) : solid T [x] := ⟨x, [], rfl, trivial⟩
theorem hang_0 (a : Int) : hangulB a 0 = false := by unfold hangulB; simp
theorem hang_0' (b : Int) : hangulB 0 b = false := by unfold hangulB; simp
theorem dull_cut {T : Tab} {x : Int} (h : dull T x) {st : St} (h7 : st.last ≠ 7) : cutB T st x = true := by
  unfold cutB
  have hs : sticksB st.last 0 = false := by
    unfold sticksB
    split
    · rfl
    · split
      · rfl
      · rw [if_neg (show ¬ ((0 : Int) = 1 ∨ (0 : Int) = 2 ∨ (0 : Int) = 3) by decide), if_neg (show ¬ ((0 : Int) = 4 ∨ (0 : Int) = 5 ∨ (0 : Int) = 8) by decide)]
        first
          | rw [if_neg h7, hang_0]
          | rw [hang_0]
  rw [h.b, h.p, h.c, hs]
  simp
theorem D_cut {T : Tab} {r : Int} (h4 : T.b r ≠ 4) (h5 : T.b r ≠ 5) (h8 : T.b r ≠ 8) : cutB T StD r = true := by
  have hs : sticksB 0 (T.b r) = false := by
    unfold sticksB
    rw [if_neg (by decide), if_neg (by decide)]
    split
    · rfl
    · rw [if_neg (by omega), if_neg (by decide), hang_0']
  unfold cutB StD
  rw [hs]
  simp
theorem dull_stick {T : Tab} {x r : Int} (h : dull T x) (hr : T.b r = 4 ∨ T.b r = 5 ∨ T.b r = 8) : cutB T (nextSt T St0 x) r = false ∧ nextSt T (nextSt T St0 x) r = nextSt T St0 r := by
  rw [dull_next h]
  constructor
  · have hs : sticksB 0 (T.b r) = true := by
      unfold sticksB
      rw [if_neg (by decide), if_neg (by decide), if_neg (by omega), if_pos hr]
    unfold cutB StD
    rw [hs]
    rfl
  · unfold nextSt nextP nextC StD St0
    have h6 : decide (T.b r = 6) = false := decide_eq_false (by omega)
    rw [h6]
/-- the state behind a cluster, and that behind its glyphs -/
def Akin (st st' : St) : Prop := (st' = st ∧ st.last ≠ 7) ∨ st' = StD
theorem Akin.last {st st' : St} (h : Akin st st') : st'.last ≠ 7 := by
  rcases h with ⟨rfl, h⟩ | rfl
  · exact h
  · decide
/-- dull scalars, each alone -/
theorem dulls_chain {T : Tab} : ∀ (L : List (List Int)) (st : St), (∀ g ∈ L, ∃ x, g = [x] ∧ dull T x) → st.last ≠ 7 → ChG T st L ∧ (L ≠ [] → lastS T st L = StD)
  | [], _, _, _ => ⟨trivial, fun h => absurd rfl h⟩
  | g :: L, st, h, h7 => by
    obtain ⟨x, rfl, hx⟩ := h g List.mem_cons_self
    have hs : stF T St0 [x] = StD := dull_next hx St0
    obtain ⟨i1, i2⟩ := dulls_chain L StD (fun k hk => h k (List.mem_cons_of_mem _ hk)) (by decide)
    refine ⟨⟨dull_solid x, dull_cut hx h7, by rw [hs]; exact i1⟩, fun _ => ?_⟩
    show lastS T (stF T St0 [x]) L = StD
    rw [hs]
    cases L with
    | nil => rfl
    | cons k L => exact i2 (by simp)
theorem stF_last (T : Tab) : ∀ (l : List Int) (st : St), l ≠ [] → (stF T st l).last = T.b (l.getLastD 0)
  | [], _, h => absurd rfl h
  | [x], _, _ => rfl
  | x :: y :: l, st, _ => by
    show (stF T (nextSt T st x) (y :: l)).last = _
    rw [stF_last T (y :: l) _ (by simp)]
    simp [List.getLastD]
section
variable (R : List Rw)
/-- what a scalar that controls is shown as -/
def caretS (r : Int) : List (List Int) := if 0 ≤ r ∧ r < 32 then [[94], [r + 64]] else if r = 127 then [[94], [63]] else [[65533]]
/-- the scalars of a cluster's glyphs -/
def sclOf (c : List Int) : List (List Int) := if c = [] then [] else if ctlB ((tabOf R).b (c.headD 0)) then c.flatMap caretS else [lean R c]
/-- scalars that stand for others have no properties -/
structure DullR : Prop where
  d : ∀ x, (x = 94 ∨ x = 63 ∨ x = 65533 ∨ x = 9676 ∨ x = 120 ∨ x = 121 ∨ (64 ≤ x ∧ x < 96)) → dull (tabOf R) x
  w : ∀ x, (x = 94 ∨ x = 63 ∨ x = 65533 ∨ x = 9676 ∨ x = 120 ∨ x = 121 ∨ (64 ≤ x ∧ x < 96)) → wideB R x = false
variable {R}
theorem caret_dull (D : DullR R) (r : Int) : ∀ g ∈ caretS r, ∃ x, g = [x] ∧ dull (tabOf R) x := by
  intro g hg
  unfold caretS at hg
  split at hg
  · rename_i h
    simp only [List.mem_cons, List.not_mem_nil, or_false] at hg
    rcases hg with rfl | rfl
    · exact ⟨_, rfl, D.d _ (.inl rfl)⟩
    · exact ⟨_, rfl, D.d _ (by omega)⟩
  · split at hg
    · simp only [List.mem_cons, List.not_mem_nil, or_false] at hg
      rcases hg with rfl | rfl
      · exact ⟨_, rfl, D.d _ (.inl rfl)⟩
      · exact ⟨_, rfl, D.d _ (.inr (.inl rfl))⟩
    · simp only [List.mem_cons, List.not_mem_nil, or_false] at hg
      subst hg
      exact ⟨_, rfl, D.d _ (by omega)⟩
theorem caretS_ne (r : Int) : caretS r ≠ [] := by
  unfold caretS
  split
  · simp
  · split <;> simp
/-- a cluster that leans on nothing -/
theorem lean_solid (D : DullR R) {c : List Int} (hs : solid (tabOf R) c) (hc : ctlB ((tabOf R).b (c.headD 0)) = false) :
    solid (tabOf R) (lean R c) ∧ Akin (stF (tabOf R) St0 c) (stF (tabOf R) St0 (lean R c)) ∧
    ((lean R c).headD 0 = 9676 ∨ ((lean R c).headD 0 = c.headD 0 ∧ dotB ((tabOf R).b (c.headD 0)) = false)) := by
  have d9 := D.d 9676 (by omega)
  obtain ⟨a, l, rfl, hn⟩ := hs
  -- what stands ahead
  have h1 : ∃ l1, (if dotB ((tabOf R).b ((a :: l).headD 0)) then [9676] else []) ++ (a :: l) = l1 ∧ solid (tabOf R) l1 ∧ stF (tabOf R) St0 l1 = stF (tabOf R) St0 (a :: l) ∧ (l1.headD 0 = 9676 ∨ (l1.headD 0 = a ∧ dotB ((tabOf R).b a) = false)) ∧ l1 ≠ [] := by
    by_cases hd : dotB ((tabOf R).b a) = true
    · have hb : (tabOf R).b a = 4 ∨ (tabOf R).b a = 5 ∨ (tabOf R).b a = 8 := by simpa [dotB, or_assoc] using hd
      obtain ⟨e1, e2⟩ := dull_stick d9 hb
      refine ⟨9676 :: a :: l, by rw [List.headD_cons, if_pos hd]; rfl, ⟨9676, a :: l, rfl, e1, by rw [e2]; exact hn⟩, ?_, .inl rfl, by simp⟩
      show stF (tabOf R) (nextSt (tabOf R) (nextSt (tabOf R) St0 9676) a) l = stF (tabOf R) (nextSt (tabOf R) St0 a) l
      rw [e2]
    · refine ⟨a :: l, by rw [List.headD_cons, if_neg hd]; rfl, ⟨a, l, rfl, hn⟩, rfl, .inr ⟨rfl, Bool.eq_false_iff.2 hd⟩, by simp⟩
  obtain ⟨l1, e1, hs1, hst, hh, hne⟩ := h1
  have hlast := stF_last (tabOf R) (a :: l) St0 (by simp)
  unfold lean
  rw [e1]
  by_cases h7 : (tabOf R).b ((a :: l).getLastD 0) = 7
  · rw [if_pos h7]
    obtain ⟨x, m, rfl, hm⟩ := hs1
    refine ⟨⟨x, m ++ [9676], rfl, (noCut_app _ _ _ _).2 ⟨hm, ?_, trivial⟩⟩, .inr ?_, ?_⟩
    · have hst' : stF (tabOf R) (nextSt (tabOf R) St0 x) m = stF (tabOf R) St0 (a :: l) := hst
      rw [hst']
      have hsm : ∀ (k : List Int) (st : St), st.some = true → (stF (tabOf R) st k).some = true := by
        intro k
        induction k with
        | nil => intro st h; exact h
        | cons y k ih => intro st _; exact ih _ rfl
      have hsome : (stF (tabOf R) St0 (a :: l)).some = true := hsm l _ rfl
      have hs7 : sticksB 7 0 = true := by decide
      unfold cutB
      rw [hlast, h7, d9.b, hs7, hsome]
      rfl
    · rw [List.cons_append, show x :: (m ++ [9676]) = (x :: m) ++ [9676] from rfl, stF_app]
      exact dull_next d9 _
    · exact hh
  · rw [if_neg h7, List.append_nil]
    refine ⟨hs1, .inl ⟨hst, by rw [hlast]; exact h7⟩, hh⟩
/-- glyphs of clusters, one behind the other -/
theorem scl_chain (D : DullR R) : ∀ (L : List (List Int)) (st st' : St), ChG (tabOf R) st L → Akin st st' → ChG (tabOf R) st' (L.flatMap (sclOf R)) ∧ (lastS (tabOf R) st' (L.flatMap (sclOf R))).last ≠ 7
  | [], _, _, _, hA => ⟨trivial, hA.last⟩
  | c :: L, st, st', h, hA => by
    obtain ⟨hs, hcut, hL⟩ := h
    have hne := solid_ne hs
    rw [List.flatMap_cons, ChG_app, lastS_app]
    have key : ChG (tabOf R) st' (sclOf R c) ∧ Akin (stF (tabOf R) St0 c) (lastS (tabOf R) st' (sclOf R c)) := by
      unfold sclOf
      rw [if_neg hne]
      by_cases hc : ctlB ((tabOf R).b (c.headD 0)) = true
      · rw [if_pos hc]
        have h1 := dulls_chain (T := tabOf R) (c.flatMap caretS) st' (fun g hg => by
          obtain ⟨r, _, hr⟩ := List.mem_flatMap.1 hg
          exact caret_dull D r g hr) hA.last
        refine ⟨h1.1, .inr (h1.2 ?_)⟩
        cases c with
        | nil => exact absurd rfl hne
        | cons r c =>
          rw [List.flatMap_cons]
          intro e
          exact caretS_ne r (List.append_eq_nil_iff.1 e).1
      · rw [if_neg hc]
        have hc' : ctlB ((tabOf R).b (c.headD 0)) = false := Bool.eq_false_iff.2 hc
        obtain ⟨h1, h2, h3⟩ := lean_solid D hs hc'
        refine ⟨⟨h1, ?_, trivial⟩, h2⟩
        rcases h3 with h3 | ⟨h3, h4⟩
        · rw [h3]
          exact dull_cut (D.d 9676 (by omega)) hA.last
        · rw [h3]
          rcases hA with ⟨rfl, _⟩ | rfl
          · exact hcut
          · have hb : (tabOf R).b (c.headD 0) ≠ 4 ∧ (tabOf R).b (c.headD 0) ≠ 5 ∧ (tabOf R).b (c.headD 0) ≠ 8 := by
              simp only [dotB, Bool.or_eq_false_iff, decide_eq_false_iff_not] at h4
              exact ⟨h4.1.1, h4.1.2, h4.2⟩
            exact D_cut hb.1 hb.2.1 hb.2.2
    have ih := scl_chain D L _ _ hL key.2
    exact ⟨⟨key.1, ih.1⟩, ih.2⟩
/-- any text's glyphs, from any on up to any, are found again -/
theorem reads_again (D : DullR R) (s : List Int) (a n : Nat) : clus (tabOf R) ((((clus (tabOf R) s).flatMap (sclOf R)).drop a).take n).flatten = (((clus (tabOf R) s).flatMap (sclOf R)).drop a).take n := by
  have h := scl_chain D (clus (tabOf R) s) St0 St0 (ch_clus (tabOf R) s.length s St0 (Nat.le_refl _) (fun _ _ => rfl)) (.inl ⟨rfl, by decide⟩)
  exact clus_chain _ _ (h.1.sub a n)
/-- and between plain letters -/
theorem reads_between (D : DullR R) (s : List Int) : clus (tabOf R) ([[120]] ++ (clus (tabOf R) s).flatMap (sclOf R) ++ [[121]]).flatten = [[120]] ++ (clus (tabOf R) s).flatMap (sclOf R) ++ [[121]] := by
  refine clus_chain _ _ ?_
  have h := scl_chain D (clus (tabOf R) s) St0 StD (ch_clus (tabOf R) s.length s St0 (Nat.le_refl _) (fun _ _ => rfl)) (.inr rfl)
  have h120 := D.d 120 (by omega)
  have h121 := D.d 121 (by omega)
  rw [ChG_app]
  refine ⟨⟨dull_solid _, rfl, ?_⟩, dull_solid _, ?_, trivial⟩
  · rw [show stF (tabOf R) St0 [120] = StD from dull_next h120 _]
    exact h.1
  · show cutB (tabOf R) (lastS (tabOf R) (stF (tabOf R) St0 [120]) ((clus (tabOf R) s).flatMap (sclOf R))) 121 = true
    rw [show stF (tabOf R) St0 [120] = StD from dull_next h120 _]
    exact dull_cut h121 h.2
end
end Go.Proofs.YtkeainhjghdfcaaGreat

/- The law's own helper 'few': of glyphs the first hundred, each one or two columns wide. -/
namespace Go.Proofs.YtkeainhjghdfcaaGreat
open Go.RowKit
abbrev Gl := ByteArray × Int
def genc (g : Gl) : List Value := [.string g.1, .int .i64 g.2]
theorem genc_len (g : Gl) : (genc g).length = 2 := rfl
theorem genc_one (g : Gl) : ∀ u ∈ genc g, u.oneCell' = true := by intro u hu; simp [genc] at hu; rcases hu with rfl | rfl <;> rfl
def fewl (l : List Gl) : List Gl := (l.take 100).map fun g => (g.1, 1 + g.2 % 2)
theorem Eg : ElemT Tryz.prog 23 97 2 24 := elemT_of (by kernel_rfl) (z := .agg #[.string ⟨#[]⟩, .int .i64 0]) (by kernel_rfl) rfl (by decide) (by decide)
theorem Erg : ElemT Tryz.prog 22 81 2 24 := elemT_of (by kernel_rfl) (z := .agg #[.string ⟨#[]⟩, .int .i64 0]) (by kernel_rfl) rfl (by decide) (by decide)
theorem fewl_snoc (l : List Gl) (k : Nat) (g : Gl) (hg : l[k]? = some g) (hk : k < 100) : fewl (l.take (k + 1)) = fewl (l.take k) ++ [(g.1, 1 + g.2 % 2)] := by
  unfold fewl
  rw [List.take_take, List.take_take, show min 100 (k+1) = k+1 by omega, show min 100 k = k by omega, List.take_add_one, hg]
  simp
theorem fewl_take (l : List Gl) (k : Nat) (hk : k = l.length ∨ k = 100) : fewl (l.take k) = fewl l := by
  unfold fewl; rcases hk with rfl | rfl; simp; rw [List.take_take, Nat.min_self]
theorem fewl_length (l : List Gl) : (fewl l).length = min l.length 100 := by unfold fewl; simp; omega
end Go.Proofs.YtkeainhjghdfcaaGreat

/- The plain law of grids: rows of cells; loosening a cell, putting a glyph, erasing; what stays true of wide cells. No program here. -/
namespace Go.Proofs.YtkeainhjghdfcaaGreat

def blankC : Gl := (⟨#[32]⟩, 1)
def zeroC : Gl := (⟨#[]⟩, 0)
def cellAt (l : List Gl) (c : Nat) : Gl := l.getD c blankC
theorem cellAt_set (l : List Gl) (i : Nat) (x : Gl) (c : Nat) (hi : i < l.length) : cellAt (l.set i x) c = if c = i then x else cellAt l c := by
  unfold cellAt
  rw [List.getD_eq_getElem?_getD, List.getD_eq_getElem?_getD]
  by_cases h : c = i
  · subst h; rw [List.getElem?_set_self hi, if_pos rfl]; rfl
  · rw [List.getElem?_set_ne (by omega), if_neg h]
theorem cellAt_of {l : List Gl} {c : Nat} {x : Gl} (h : l[c]? = some x) : cellAt l c = x := by unfold cellAt; rw [List.getD_eq_getElem?_getD, h]; rfl
theorem get_cellAt {l : List Gl} {c : Nat} (h : c < l.length) : l[c]? = some (cellAt l c) := by unfold cellAt; rw [List.getD_eq_getElem?_getD, List.getElem?_eq_getElem h]; rfl

def looseRow (l : List Gl) (k : Nat) : List Gl :=
  (if (cellAt l k).2 = 0 then l.set (k - 1) blankC else if (cellAt l k).2 = 2 then l.set (k + 1) blankC else l).set k blankC
theorem looseRow_len (l : List Gl) (k : Nat) : (looseRow l k).length = l.length := by
  unfold looseRow; rw [List.length_set]; split
  · simp
  · split <;> simp

/-- what holds of a row -/
def fine (l : List Gl) (c : Nat) : Prop :=
  ((cellAt l c).2 = 0 ∧ (cellAt l c).1 = ⟨#[]⟩ ∧ 1 ≤ c ∧ (cellAt l (c - 1)).2 = 2) ∨ (cellAt l c).2 = 1 ∨ ((cellAt l c).2 = 2 ∧ c + 1 < l.length ∧ (cellAt l (c + 1)).2 = 0)
def wfRow (l : List Gl) : Prop := ∀ c, c < l.length → fine l c

theorem cellAt_loose {l : List Gl} (hw : wfRow l) {k : Nat} (hk : k < l.length) (c : Nat) :
    cellAt (looseRow l k) c = if c = k then blankC else if (cellAt l k).2 = 0 ∧ c + 1 = k then blankC else if (cellAt l k).2 = 2 ∧ c = k + 1 then blankC else cellAt l c := by
  unfold looseRow
  have hf := hw k hk
  unfold fine at hf
  rcases hf with ⟨h1, _, h2, _⟩ | h1 | ⟨h1, h2, _⟩
  · rw [if_pos h1, cellAt_set _ _ _ _ (by simpa using hk), cellAt_set _ _ _ _ (by omega)]
    by_cases hc : c = k
    · rw [if_pos hc, if_pos hc]
    · rw [if_neg hc, if_neg hc]
      by_cases h3 : c + 1 = k
      · rw [if_pos (by omega), if_pos ⟨h1, h3⟩]
      · rw [if_neg (by omega), if_neg (fun h => h3 h.2), if_neg (fun h => by omega)]
  · rw [if_neg (by omega), if_neg (by omega), cellAt_set _ _ _ _ hk]
    by_cases hc : c = k
    · rw [if_pos hc, if_pos hc]
    · rw [if_neg hc, if_neg hc, if_neg (fun h => by omega), if_neg (fun h => by omega)]
  · rw [if_neg (by omega), if_pos h1, cellAt_set _ _ _ _ (by simpa using hk), cellAt_set _ _ _ _ h2]
    by_cases hc : c = k
    · rw [if_pos hc, if_pos hc]
    · rw [if_neg hc, if_neg hc]
      by_cases h3 : c = k + 1
      · rw [if_pos h3, if_neg (fun h => by omega), if_pos ⟨h1, h3⟩]
      · rw [if_neg h3, if_neg (fun h => by omega), if_neg (fun h => h3 h.2)]

theorem blank_w : blankC.2 = 1 := rfl

theorem wf_loose {l : List Gl} (hw : wfRow l) {k : Nat} (hk : k < l.length) : wfRow (looseRow l k) := by
  intro c hc
  rw [looseRow_len] at hc
  have hl := looseRow_len l k
  have hat := cellAt_loose hw hk
  have hfk := hw k hk
  have hfc := hw c hc
  unfold fine at hfk hfc ⊢
  rw [hl]
  by_cases h1 : c = k
  · rw [hat c, if_pos h1]; exact .inr (.inl rfl)
  by_cases h2 : (cellAt l k).2 = 0 ∧ c + 1 = k
  · rw [hat c, if_neg h1, if_pos h2]; exact .inr (.inl rfl)
  by_cases h3 : (cellAt l k).2 = 2 ∧ c = k + 1
  · rw [hat c, if_neg h1, if_neg h2, if_pos h3]; exact .inr (.inl rfl)
  rw [hat c, if_neg h1, if_neg h2, if_neg h3]
  rcases hfc with ⟨a1, a2, a3, a4⟩ | a1 | ⟨a1, a2, a3⟩
  · refine .inl ⟨a1, a2, a3, ?_⟩
    rw [hat (c - 1)]
    rw [if_neg (fun e => by rw [e] at a4; exact h3 ⟨a4, by omega⟩), if_neg (fun e => by omega)]
    rw [if_neg]
    · exact a4
    · rintro ⟨e1, e2⟩
      rcases hfk with ⟨b1, _⟩ | b1 | ⟨_, _, b3⟩
      · omega
      · omega
      · rw [e2] at a4; omega
  · exact .inr (.inl a1)
  · refine .inr (.inr ⟨a1, a2, ?_⟩)
    rw [hat (c + 1)]
    rw [if_neg (fun e => by rw [e] at a3; exact h2 ⟨a3, e⟩)]
    rw [if_neg]
    · rw [if_neg (fun e => by omega)]
      exact a3
    · rintro ⟨e1, e2⟩
      rcases hfk with ⟨_, _, _, b4⟩ | b1 | ⟨b1, _⟩
      · rw [← e2, Nat.add_sub_cancel] at b4; omega
      · omega
      · omega

def putRow (l : List Gl) (k : Nat) (x : Gl) : List Gl :=
  if x.2 = 2 then ((looseRow (looseRow l k) (k + 1)).set (k + 1) zeroC).set k x else (looseRow l k).set k x
theorem putRow_len (l : List Gl) (k : Nat) (x : Gl) : (putRow l k x).length = l.length := by
  unfold putRow; split <;> simp [looseRow_len]

theorem wf_put {l : List Gl} (hw : wfRow l) {k : Nat} {x : Gl} (hk : k < l.length) (hx : x.2 = 1 ∨ x.2 = 2 ∧ k + 1 < l.length) : wfRow (putRow l k x) := by
  have hw1 := wf_loose hw hk
  have hl1 := looseRow_len l k
  have hb1 : cellAt (looseRow l k) k = blankC := by rw [cellAt_loose hw hk, if_pos rfl]
  rcases hx with hx | ⟨hx, hk1⟩
  · unfold putRow
    rw [if_neg (by omega)]
    generalize looseRow l k = m at *
    intro c hc
    rw [List.length_set] at hc
    have hf := hw1 c hc
    unfold fine at hf ⊢
    rw [List.length_set]
    by_cases h1 : c = k
    · subst h1; rw [cellAt_set _ _ _ _ (by omega), if_pos rfl]; exact .inr (.inl hx)
    · rw [cellAt_set _ _ _ _ (by omega), if_neg h1]
      rcases hf with ⟨a1, a2, a3, a4⟩ | a1 | ⟨a1, a2, a3⟩
      · refine .inl ⟨a1, a2, a3, ?_⟩
        rw [cellAt_set _ _ _ _ (by omega), if_neg (fun e => by rw [e, hb1, blank_w] at a4; omega)]
        exact a4
      · exact .inr (.inl a1)
      · refine .inr (.inr ⟨a1, a2, ?_⟩)
        rw [cellAt_set _ _ _ _ (by omega), if_neg (fun e => by rw [e, hb1, blank_w] at a3; omega)]
        exact a3
  · unfold putRow
    rw [if_pos hx]
    have hk2 : k + 1 < (looseRow l k).length := by omega
    have hw2 := wf_loose hw1 hk2
    have hl2 := looseRow_len (looseRow l k) (k + 1)
    have hb2 : cellAt (looseRow (looseRow l k) (k + 1)) (k + 1) = blankC := by rw [cellAt_loose hw1 hk2, if_pos rfl]
    have hb3 : cellAt (looseRow (looseRow l k) (k + 1)) k = blankC := by
      rw [cellAt_loose hw1 hk2, if_neg (by omega)]
      split
      · rfl
      · rw [if_neg (by omega), hb1]
    generalize looseRow (looseRow l k) (k + 1) = m at *
    have hat : ∀ c, cellAt ((m.set (k + 1) zeroC).set k x) c = if c = k then x else if c = k + 1 then zeroC else cellAt m c := by
      intro c; rw [cellAt_set _ _ _ _ (by rw [List.length_set]; omega), cellAt_set _ _ _ _ (by omega)]
    intro c hc
    have hc' : c < m.length := by simpa using hc
    have hf := hw2 c hc'
    unfold fine at hf ⊢
    simp only [List.length_set]
    by_cases h1 : c = k
    · subst h1
      rw [hat c, if_pos rfl, hat (c + 1), if_neg (by omega), if_pos rfl]
      exact .inr (.inr ⟨hx, by omega, rfl⟩)
    by_cases h2 : c = k + 1
    · subst h2
      rw [hat (k + 1), if_neg (by omega), if_pos rfl, Nat.add_sub_cancel, hat k, if_pos rfl]
      exact .inl ⟨rfl, rfl, by omega, hx⟩
    rw [hat c, if_neg h1, if_neg h2]
    rcases hf with ⟨a1, a2, a3, a4⟩ | a1 | ⟨a1, a2, a3⟩
    · refine .inl ⟨a1, a2, a3, ?_⟩
      rw [hat (c - 1), if_neg (fun e => by rw [e, hb3, blank_w] at a4; omega), if_neg (fun e => by rw [e, hb2, blank_w] at a4; omega)]
      exact a4
    · exact .inr (.inl a1)
    · refine .inr (.inr ⟨a1, a2, ?_⟩)
      rw [hat (c + 1), if_neg (fun e => by rw [e, hb3, blank_w] at a3; omega), if_neg (fun e => by rw [e, hb2, blank_w] at a3; omega)]
      exact a3

/-- erased from a column on, as far as n columns -/
def eraseRow (l : List Gl) (c : Nat) : Nat → List Gl
  | 0 => l
  | n + 1 => looseRow (eraseRow l c n) (c + n)
theorem eraseRow_len (l : List Gl) (c n : Nat) : (eraseRow l c n).length = l.length := by
  induction n with
  | zero => rfl
  | succ n ih => unfold eraseRow; rw [looseRow_len, ih]
theorem wf_erase {l : List Gl} (hw : wfRow l) {c : Nat} : ∀ n, c + n ≤ l.length → wfRow (eraseRow l c n) := by
  intro n
  induction n with
  | zero => intro _; exact hw
  | succ n ih => intro h; unfold eraseRow; exact wf_loose (ih (by omega)) (by rw [eraseRow_len]; omega)
theorem erase_blank {l : List Gl} (hw : wfRow l) : ∀ n, n ≤ l.length → ∀ c, c < n → cellAt (eraseRow l 0 n) c = blankC := by
  intro n
  induction n with
  | zero => intro _ c h; omega
  | succ n ih =>
    intro hn c hc
    unfold eraseRow
    rw [Nat.zero_add, cellAt_loose (wf_erase hw n (by omega)) (by rw [eraseRow_len]; omega)]
    split
    · rfl
    · split
      · rfl
      · split
        · rfl
        · exact ih (by omega) c (by omega)
theorem erase_all {l : List Gl} (hw : wfRow l) : eraseRow l 0 l.length = List.replicate l.length blankC := by
  refine List.ext_getElem? fun c => ?_
  rcases Nat.lt_or_ge c l.length with h | h
  · rw [get_cellAt (by rw [eraseRow_len]; exact h), erase_blank hw _ (Nat.le_refl _) c h, List.getElem?_replicate, if_pos h]
  · rw [List.getElem?_eq_none (by rw [eraseRow_len]; exact h), List.getElem?_eq_none (by simpa using h)]

theorem wf_blank (n : Nat) : wfRow (List.replicate n blankC) := by
  intro c hc
  have h : cellAt (List.replicate n blankC) c = blankC := cellAt_of (by rw [List.getElem?_replicate, if_pos (by simpa using hc)])
  unfold fine
  rw [h]
  exact .inr (.inl rfl)

/-! ### Rows one behind the other -/
def shape (n m : Nat) (G : List (List Gl)) : Prop := G.length = n ∧ ∀ l ∈ G, l.length = m
theorem flat_at {m : Nat} : ∀ {G : List (List Gl)}, (∀ l ∈ G, l.length = m) → ∀ {r c : Nat} {l : List Gl}, G[r]? = some l → c < m → G.flatten[r * m + c]? = l[c]? := by
  intro G
  induction G with
  | nil => intro _ r c l h; simp at h
  | cons l0 G ih =>
    intro hG r c l hr hc
    have h0 := hG l0 List.mem_cons_self
    rw [List.flatten_cons]
    cases r with
    | zero =>
      simp at hr; subst hr
      rw [Nat.zero_mul, Nat.zero_add, List.getElem?_append_left (by omega)]
    | succ r =>
      rw [Nat.succ_mul, List.getElem?_append_right (by omega), h0, show r * m + m + c - m = r * m + c by omega]
      exact ih (fun l hl => hG l (List.mem_cons_of_mem _ hl)) (by simpa using hr) hc
theorem flat_length {m : Nat} : ∀ {G : List (List Gl)}, (∀ l ∈ G, l.length = m) → G.flatten.length = G.length * m := by
  intro G
  induction G with
  | nil => intro _; simp
  | cons l0 G ih =>
    intro hG
    rw [List.flatten_cons, List.length_append, ih (fun l hl => hG l (List.mem_cons_of_mem _ hl)), hG l0 List.mem_cons_self, List.length_cons, Nat.succ_mul]
    omega
theorem flat_set {m : Nat} : ∀ {G : List (List Gl)}, (∀ l ∈ G, l.length = m) → ∀ {r c : Nat} {l : List Gl} (x : Gl), G[r]? = some l → c < m → G.flatten.set (r * m + c) x = (G.set r (l.set c x)).flatten := by
  intro G
  induction G with
  | nil => intro _ r c l x h; simp at h
  | cons l0 G ih =>
    intro hG r c l x hr hc
    have h0 := hG l0 List.mem_cons_self
    rw [List.flatten_cons]
    cases r with
    | zero =>
      simp at hr; subst hr
      rw [Nat.zero_mul, Nat.zero_add, List.set_append_left _ _ (by omega), List.set_cons_zero, List.flatten_cons]
    | succ r =>
      rw [Nat.succ_mul, List.set_append_right _ _ (by omega), h0, show r * m + m + c - m = r * m + c by omega, List.set_cons_succ, List.flatten_cons]
      rw [ih (fun l hl => hG l (List.mem_cons_of_mem _ hl)) x (by simpa using hr) hc]
end Go.Proofs.YtkeainhjghdfcaaGreat

/- grid: one cell loosened. -/
namespace Go.Proofs.YtkeainhjghdfcaaGreat
open Go.RowKit

/-- p is a pointer to a grid of n rows and m columns, whose cells are xs; it lies in the blocks gb and lb. -/
structure GridAt (w : World) (gb lb n m cap : Nat) (xs : List Gl) : Prop where
  c0 : w.cell? ⟨gb, 0, none⟩ = some (.int .i64 n)
  c1 : w.cell? ⟨gb, 1, none⟩ = some (.int .i64 m)
  c2 : w.cell? ⟨gb, 2, none⟩ = some (.slice (some ⟨lb, 0, none⟩) (n * m) cap)
  ne : gb ≠ lb
  len : xs.length = n * m
  hcap : n * m ≤ cap
  capm : cap ≤ maxLen
  cells : ∀ j u, (xs.flatMap genc)[j]? = some u → w.cell? ⟨lb, j, none⟩ = some u
  free : ∀ j, w.frozen? ⟨lb, j, none⟩ = false

theorem GridAt.glt {w : World} {gb lb n m cap : Nat} {xs : List Gl} (h : GridAt w gb lb n m cap xs) : gb < w.heap.size := World.block_lt_of_cell? w _ h.c0
theorem GridAt.text {w : World} {gb lb n m cap : Nat} {xs : List Gl} (h : GridAt w gb lb n m cap xs) {k : Nat} {x : Gl} (hk : xs[k]? = some x) : w.cell? ⟨lb, k * 2, none⟩ = some (.string x.1) := by
  have := flat_get genc_len xs k x 0 _ hk rfl
  exact h.cells _ _ this
theorem GridAt.width {w : World} {gb lb n m cap : Nat} {xs : List Gl} (h : GridAt w gb lb n m cap xs) {k : Nat} {x : Gl} (hk : xs[k]? = some x) : w.cell? ⟨lb, k * 2 + 1, none⟩ = some (.int .i64 x.2) := by
  have := flat_get genc_len xs k x 1 _ hk rfl
  exact h.cells _ _ this
theorem GridAt.llt {w : World} {gb lb n m cap : Nat} {xs : List Gl} (h : GridAt w gb lb n m cap xs) {k : Nat} (hk : k < xs.length) : lb < w.heap.size :=
  World.block_lt_of_cell? w _ (h.text (List.getElem?_eq_getElem hk))

set_option maxHeartbeats 400000 in
theorem blank_any (w : World) : Calls Tryz.prog 33 #[] w fun e w' => e = .returned (.agg #[.string ⟨#[32]⟩, .int .i64 1]) ∧ w.alloc (.cells #[.string ⟨#[32]⟩, .int .i64 1] 48) = w' := by
  go_enter Tryz.func33, Tryz.ntmps33
  go_wp2
  exact bodyPost_ret (v := .agg #[.string ⟨#[32]⟩, .int .i64 1]) (by simp [results, Tryz.results33, go_sem]) rfl ⟨rfl, rfl⟩

theorem GridAt.same {w w' : World} {gb lb n m cap : Nat} {xs : List Gl} (h : GridAt w gb lb n m cap xs) (hg : w'.heap[gb]? = w.heap[gb]?) (hl : w'.heap[lb]? = w.heap[lb]?) : GridAt w' gb lb n m cap xs :=
  ⟨(World.cell?_of_block (a := ⟨gb, 0, none⟩) hg).trans h.c0, (World.cell?_of_block (a := ⟨gb, 1, none⟩) hg).trans h.c1, (World.cell?_of_block (a := ⟨gb, 2, none⟩) hg).trans h.c2, h.ne, h.len, h.hcap, h.capm,
    fun j u hu => (World.cell?_of_block (a := ⟨lb, j, none⟩) hl).trans (h.cells j u hu), fun j => (World.frozen?_of_block (a := ⟨lb, j, none⟩) hl).trans (h.free j)⟩

theorem GridAt.set {w : World} {gb lb n m cap : Nat} {xs : List Gl} (h : GridAt w gb lb n m cap xs) {k : Nat} (hk : k < xs.length) (x : Gl) :
    GridAt ((w.setCell ⟨lb, k * 2, none⟩ (.string x.1)).setCell ⟨lb, k * 2 + 1, none⟩ (.int .i64 x.2)) gb lb n m cap (xs.set k x) := by
  have hne : ∀ o p : Nat, (⟨lb, o, none⟩ : Addr) ≠ ⟨gb, p, none⟩ := by intro o p e; injection e with e1; exact h.ne e1.symm
  have hx := get_cellAt hk
  refine ⟨?_, ?_, ?_, h.ne, by rw [List.length_set]; exact h.len, h.hcap, h.capm, ?_, ?_⟩
  · rw [World.cell?_setCell_other _ _ _ _ (hne _ _), World.cell?_setCell_other _ _ _ _ (hne _ _)]; exact h.c0
  · rw [World.cell?_setCell_other _ _ _ _ (hne _ _), World.cell?_setCell_other _ _ _ _ (hne _ _)]; exact h.c1
  · rw [World.cell?_setCell_other _ _ _ _ (hne _ _), World.cell?_setCell_other _ _ _ _ (hne _ _)]; exact h.c2
  · intro j u hu
    obtain ⟨i, y, hy, q, hq, rfl, hqu⟩ := flat_index genc_len _ j u hu
    by_cases hik : i = k
    · subst hik
      rw [List.getElem?_set_self hk] at hy
      obtain rfl : x = y := by simpa using hy
      rcases (show q = 0 ∨ q = 1 by omega) with rfl | rfl
      · rw [World.cell?_setCell_other _ _ _ _ (by intro e; injection e with _ e2; omega), Nat.add_zero, World.cell?_setCell_same' _ _ _ (by rw [h.text hx]; rfl)]
        exact hqu
      · rw [World.cell?_setCell_same' _ _ _ (by rw [World.cell?_setCell_other _ _ _ _ (by intro e; injection e with _ e2; omega), h.width hx]; rfl)]
        exact hqu
    · rw [List.getElem?_set_ne (by omega)] at hy
      rw [World.cell?_setCell_other _ _ _ _ (by intro e; injection e with _ e2; omega), World.cell?_setCell_other _ _ _ _ (by intro e; injection e with _ e2; omega)]
      exact h.cells _ _ (flat_get genc_len xs i y q u hy hqu)
  · intro j
    rw [World.frozen?_setCell, World.frozen?_setCell]
    exact h.free j

/-- The world behind 'g.l[k] = x', blocks laid and draws beside it. -/
theorem GridAt.put {w : World} {gb lb n m cap : Nat} {xs : List Gl} (h : GridAt w gb lb n m cap xs) {k : Nat} (hk : k < xs.length) (x : Gl) (o : Obj) :
    GridAt ((((w.setCell ⟨lb, k * 2, none⟩ (.string x.1)).setCell ⟨lb, k * 2 + 1, none⟩ (.int .i64 x.2)).alloc o).drew) gb lb n m cap (xs.set k x) ∧
    w.grownBy ((((w.setCell ⟨lb, k * 2, none⟩ (.string x.1)).setCell ⟨lb, k * 2 + 1, none⟩ (.int .i64 x.2)).alloc o).drew) (some lb) := by
  have hg := h.glt
  have hl := h.llt hk
  constructor
  · refine (h.set hk x).same ?_ ?_
    · exact Below.heap_alloc _ _ _ (by simpa using hg)
    · exact Below.heap_alloc _ _ _ (by simpa using hl)
  · refine ⟨rfl, rfl, rfl, by simp, fun j hj hne => ?_⟩
    have h1 : j ≠ lb := fun e => hne (by rw [e])
    exact ((Below.heap_alloc _ _ _ (by simpa using hj)).trans (Below.heap_setCell _ _ _ _ h1)).trans (Below.heap_setCell _ _ _ _ h1)

/-- The same, no block beside it. -/
theorem GridAt.put0 {w : World} {gb lb n m cap : Nat} {xs : List Gl} (h : GridAt w gb lb n m cap xs) {k : Nat} (hk : k < xs.length) (x : Gl) :
    GridAt (((w.setCell ⟨lb, k * 2, none⟩ (.string x.1)).setCell ⟨lb, k * 2 + 1, none⟩ (.int .i64 x.2)).drew) gb lb n m cap (xs.set k x) ∧
    w.grownBy (((w.setCell ⟨lb, k * 2, none⟩ (.string x.1)).setCell ⟨lb, k * 2 + 1, none⟩ (.int .i64 x.2)).drew) (some lb) := by
  constructor
  · exact (h.set hk x).same rfl rfl
  · refine ⟨rfl, rfl, rfl, by simp, fun j hj hne => ?_⟩
    have h1 : j ≠ lb := fun e => hne (by rw [e])
    exact (Below.heap_setCell _ _ _ _ h1).trans (Below.heap_setCell _ _ _ _ h1)

theorem grown_trans {w w1 w2 : World} {r : Option Nat} (h : w.grownBy w1 r) (k : w1.grownBy w2 r) : w.grownBy w2 r :=
  ⟨k.os.trans h.os, k.tape.trans h.tape, k.output.trans h.output, Nat.le_trans h.size k.size, fun j hj hne => (k.block j (Nat.lt_of_lt_of_le hj h.size) hne).trans (h.block j hj hne)⟩

/-- What a region 'g.l[j] = Blank()' asks of the world at hand. -/
structure GdFacts (w : World) (gb lb n m cap : Nat) (k : Nat) (t : ByteArray) (d : Int) : Prop where
  c2 : w.cell? ⟨gb, 2, none⟩ = some (.slice (some ⟨lb, 0, none⟩) (n * m) cap)
  t0 : w.cell? ⟨lb, k * 2, none⟩ = some (.string t)
  t1 : w.cell? ⟨lb, k * 2 + 1, none⟩ = some (.int .i64 d)
  f0 : w.frozen? ⟨lb, k * 2, none⟩ = false
  f1 : w.frozen? ⟨lb, k * 2 + 1, none⟩ = false
  lb1 : lb < w.heap.size
  gb1 : gb < w.heap.size
theorem GridAt.facts {w : World} {gb lb n m cap : Nat} {xs : List Gl} (h : GridAt w gb lb n m cap xs) {k : Nat} (hk : k < xs.length) : GdFacts w gb lb n m cap k (cellAt xs k).1 (cellAt xs k).2 :=
  ⟨h.c2, h.text (get_cellAt hk), h.width (get_cellAt hk), h.free _, h.free _, h.llt hk, h.glt⟩

def looseFlat (xs : List Gl) (k : Nat) : List Gl := (if (cellAt xs k).2 = 0 then xs.set (k - 1) blankC else if (cellAt xs k).2 = 2 then xs.set (k + 1) blankC else xs).set k blankC

set_option maxRecDepth 100000 in
set_option maxHeartbeats 1000000 in
theorem loose_one (gb lb n m cap k : Nat) (xs : List Gl) (w : World) (hG : GridAt w gb lb n m cap xs) (hk : k < xs.length) (h1 : (cellAt xs k).2 = 1) :
    Calls Tryz.prog 103 #[.pointer (some ⟨gb, 0, none⟩), .int .i64 k] w fun e w' => e = .returned (.tuple #[]) ∧ w.grownBy w' (some lb) ∧ GridAt w' gb lb n m cap (xs.set k blankC) := by
  obtain ⟨c2, t0, t1, f0, f1, hlb, hgl⟩ := hG.facts hk
  rw [h1] at t1
  have hlen := hG.len
  have hk1 : (k : Int) < ((n * m : Nat) : Int) := by omega
  have hne : ¬ gb = lb := hG.ne
  have hne' : ¬ lb = gb := fun e => hG.ne e.symm
  have hk0 : (0 : Int) ≤ (k : Int) := by omega
  have hk2 : (k : Int) < (n : Int) * (m : Int) := by rw [← Int.natCast_mul]; exact hk1
  go_enter Tryz.func103, Tryz.ntmps103
  go_wp2
  go_region_held3 (fun w' => w'.cell? ⟨gb, 2, none⟩ = some (.slice (some ⟨lb, 0, none⟩) (n * m) cap)) (go_keep) (first | (go_at_call 33; refine (blank_any _).mono ?_; rintro e w' ⟨rfl, rfl⟩))
  go_wp2
  go_end0
  exact ⟨rfl, (hG.put hk blankC _).2, (hG.put hk blankC _).1⟩

set_option maxRecDepth 100000 in
set_option maxHeartbeats 1000000 in
theorem loose_two (gb lb n m cap k : Nat) (xs : List Gl) (w : World) (hG : GridAt w gb lb n m cap xs) (hk : k + 1 < xs.length) (hsz : n * m ≤ 1073741824) (h1 : (cellAt xs k).2 = 2) :
    Calls Tryz.prog 103 #[.pointer (some ⟨gb, 0, none⟩), .int .i64 k] w fun e w' => e = .returned (.tuple #[]) ∧ w.grownBy w' (some lb) ∧ GridAt w' gb lb n m cap ((xs.set (k + 1) blankC).set k blankC) := by
  obtain ⟨c2, t0, t1, f0, f1, hlb, hgl⟩ := hG.facts (k := k) (by omega)
  obtain ⟨_, s0, s1, r0, r1, _, _⟩ := hG.facts (k := k + 1) hk
  rw [h1] at t1
  have hlen := hG.len
  have hk1 : (k : Int) < ((n * m : Nat) : Int) := by omega
  have hj1 : (k : Int) + 1 < ((n * m : Nat) : Int) := by omega
  have hne : ¬ gb = lb := hG.ne
  have hne' : ¬ lb = gb := fun e => hG.ne e.symm
  have hk0 : (0 : Int) ≤ (k : Int) := by omega
  have hj0 : (0 : Int) ≤ (k : Int) + 1 := by omega
  have hk2 : (k : Int) < (n : Int) * (m : Int) := by rw [← Int.natCast_mul]; exact hk1
  have hj2 : (k : Int) + 1 < (n : Int) * (m : Int) := by rw [← Int.natCast_mul]; exact hj1
  have hj3 : ((k : Int) + 1).toNat = k + 1 := by omega
  have e1 := IntWalk.i64_in ((k : Int) + 1) (by omega)
  go_enter Tryz.func103, Tryz.ntmps103
  go_wp2
  go_region_held3 (fun w' => w'.cell? ⟨gb, 2, none⟩ = some (.slice (some ⟨lb, 0, none⟩) (n * m) cap)) (go_keep) (first | (go_at_call 33; refine (blank_any _).mono ?_; rintro e w' ⟨rfl, rfl⟩))
  have hp := hG.put (k := k + 1) (by omega) blankC (.cells #[.string ⟨#[32]⟩, .int .i64 1] 48)
  dsimp only [blankC] at hp
  generalize ((((w.setCell ⟨lb, (k + 1) * 2, none⟩ (Value.string ⟨#[32]⟩)).setCell ⟨lb, (k + 1) * 2 + 1, none⟩ (Value.int .i64 1)).alloc (Obj.cells #[Value.string ⟨#[32]⟩, Value.int .i64 1] 48)).drew) = W1 at hp ⊢
  obtain ⟨hG1, hg1⟩ := hp
  have hG1' : GridAt W1 gb lb n m cap (xs.set (k + 1) blankC) := hG1
  obtain ⟨d2, u0, u1, v0, v1, hlb1, hgl1⟩ := hG1'.facts (k := k) (by rw [List.length_set]; omega)
  clear c2 t0 t1 f0 f1 s0 s1 r0 r1 hG1
  go_wp2
  go_region_held3 (fun w' => w'.cell? ⟨gb, 2, none⟩ = some (.slice (some ⟨lb, 0, none⟩) (n * m) cap)) (go_keep) (first | (go_at_call 33; refine (blank_any _).mono ?_; rintro e w' ⟨rfl, rfl⟩))
  go_wp2
  go_end0
  exact ⟨rfl, grown_trans hg1 (hG1'.put (by rw [List.length_set]; omega) blankC _).2, (hG1'.put (by rw [List.length_set]; omega) blankC _).1⟩

set_option maxRecDepth 100000 in
set_option maxHeartbeats 1000000 in
theorem loose_zero (gb lb n m cap k : Nat) (xs : List Gl) (w : World) (hG : GridAt w gb lb n m cap xs) (hk : k < xs.length) (hk9 : 1 ≤ k) (hsz : n * m ≤ 1073741824) (h1 : (cellAt xs k).2 = 0) :
    Calls Tryz.prog 103 #[.pointer (some ⟨gb, 0, none⟩), .int .i64 k] w fun e w' => e = .returned (.tuple #[]) ∧ w.grownBy w' (some lb) ∧ GridAt w' gb lb n m cap ((xs.set (k - 1) blankC).set k blankC) := by
  obtain ⟨c2, t0, t1, f0, f1, hlb, hgl⟩ := hG.facts (k := k) (by omega)
  obtain ⟨_, s0, s1, r0, r1, _, _⟩ := hG.facts (k := k - 1) (by omega)
  rw [h1] at t1
  have hlen := hG.len
  have hk1 : (k : Int) < ((n * m : Nat) : Int) := by omega
  have hj1 : (k : Int) - 1 < ((n * m : Nat) : Int) := by omega
  have hne : ¬ gb = lb := hG.ne
  have hne' : ¬ lb = gb := fun e => hG.ne e.symm
  have hk0 : (0 : Int) ≤ (k : Int) := by omega
  have hj0 : (0 : Int) ≤ (k : Int) - 1 := by omega
  have hj5 : (1 : Int) ≤ (k : Int) := by omega
  have hk2 : (k : Int) < (n : Int) * (m : Int) := by rw [← Int.natCast_mul]; exact hk1
  have hj2 : (k : Int) - 1 < (n : Int) * (m : Int) := by rw [← Int.natCast_mul]; exact hj1
  have hj3 : ((k : Int) - 1).toNat = k - 1 := by omega
  have e1 := IntWalk.i64_in ((k : Int) - 1) (by omega)
  go_enter Tryz.func103, Tryz.ntmps103
  go_wp2
  go_region_held3 (fun w' => w'.cell? ⟨gb, 2, none⟩ = some (.slice (some ⟨lb, 0, none⟩) (n * m) cap)) (go_keep) (first | (go_at_call 33; refine (blank_any _).mono ?_; rintro e w' ⟨rfl, rfl⟩))
  have hp := hG.put (k := k - 1) (by omega) blankC (.cells #[.string ⟨#[32]⟩, .int .i64 1] 48)
  dsimp only [blankC] at hp
  generalize ((((w.setCell ⟨lb, (k - 1) * 2, none⟩ (Value.string ⟨#[32]⟩)).setCell ⟨lb, (k - 1) * 2 + 1, none⟩ (Value.int .i64 1)).alloc (Obj.cells #[Value.string ⟨#[32]⟩, Value.int .i64 1] 48)).drew) = W1 at hp ⊢
  obtain ⟨hG1, hg1⟩ := hp
  have hG1' : GridAt W1 gb lb n m cap (xs.set (k - 1) blankC) := hG1
  obtain ⟨d2, u0, u1, v0, v1, hlb1, hgl1⟩ := hG1'.facts (k := k) (by rw [List.length_set]; omega)
  clear c2 t0 t1 f0 f1 s0 s1 r0 r1 hG1
  go_wp2
  go_region_held3 (fun w' => w'.cell? ⟨gb, 2, none⟩ = some (.slice (some ⟨lb, 0, none⟩) (n * m) cap)) (go_keep) (first | (go_at_call 33; refine (blank_any _).mono ?_; rintro e w' ⟨rfl, rfl⟩))
  go_wp2
  go_end0
  exact ⟨rfl, grown_trans hg1 (hG1'.put (by rw [List.length_set]; omega) blankC _).2, (hG1'.put (by rw [List.length_set]; omega) blankC _).1⟩

end Go.Proofs.YtkeainhjghdfcaaGreat

/- grid: is a cell there; a cell loosened, by rows. -/
namespace Go.Proofs.YtkeainhjghdfcaaGreat
open Go.RowKit

set_option maxRecDepth 100000 in
set_option maxHeartbeats 400000 in
theorem in_yes (gb n m : Nat) (r c : Int) (w : World) (c0 : w.cell? ⟨gb, 0, none⟩ = some (.int .i64 n)) (c1 : w.cell? ⟨gb, 1, none⟩ = some (.int .i64 m)) (h1 : 0 ≤ r) (h2 : r < n) (h3 : 0 ≤ c) (h4 : c < m) :
    Calls Tryz.prog 84 #[.pointer (some ⟨gb, 0, none⟩), .int .i64 r, .int .i64 c] w fun e w' => e = .returned (.bool true) ∧ w = w' := by
  go_enter Tryz.func84, Tryz.ntmps84
  go_wp2
  go_ret
  exact ⟨rfl, rfl⟩

set_option maxRecDepth 100000 in
set_option maxHeartbeats 400000 in
theorem in_no (gb n m : Nat) (r c : Int) (w : World) (c0 : w.cell? ⟨gb, 0, none⟩ = some (.int .i64 n)) (c1 : w.cell? ⟨gb, 1, none⟩ = some (.int .i64 m)) (h : ¬ (0 ≤ r ∧ r < n ∧ 0 ≤ c ∧ c < m)) :
    Calls Tryz.prog 84 #[.pointer (some ⟨gb, 0, none⟩), .int .i64 r, .int .i64 c] w fun e w' => e = .returned (.bool false) ∧ w = w' := by
  have h' : r < 0 ∨ (0 ≤ r ∧ ¬ r < n) ∨ (0 ≤ r ∧ r < n ∧ c < 0) ∨ (0 ≤ r ∧ r < n ∧ 0 ≤ c ∧ ¬ c < m) := by omega
  clear h
  rcases h' with h1 | ⟨h1, h2⟩ | ⟨h1, h2, h3⟩ | ⟨h1, h2, h3, h4⟩
  all_goals
    go_enter Tryz.func84, Tryz.ntmps84
    go_wp2
    go_ret
    exact ⟨rfl, rfl⟩

set_option maxRecDepth 100000 in
set_option maxHeartbeats 400000 in
theorem in_nil (r c : Int) (w : World) :
    Calls Tryz.prog 84 #[.pointer none, .int .i64 r, .int .i64 c] w fun e w' => e = .returned (.bool false) ∧ w = w' := by
  go_enter Tryz.func84, Tryz.ntmps84
  go_wp2
  go_ret
  exact ⟨rfl, rfl⟩

/-- A grid by rows: as the document has it. -/
structure GridG (w : World) (gb lb m cap : Nat) (G : List (List Gl)) : Prop where
  grid : GridAt w gb lb G.length m cap G.flatten
  shape : ∀ l ∈ G, l.length = m
  wf : ∀ l ∈ G, wfRow l
  small : G.length * m ≤ 1073741824

theorem GridG.row {w : World} {gb lb m cap : Nat} {G : List (List Gl)} (h : GridG w gb lb m cap G) {r : Nat} {l : List Gl} (hr : G[r]? = some l) : l.length = m ∧ wfRow l ∧ r < G.length :=
  ⟨h.shape l (List.mem_of_getElem? hr), h.wf l (List.mem_of_getElem? hr), (List.getElem?_eq_some_iff.1 hr).1⟩
theorem GridG.index {w : World} {gb lb m cap : Nat} {G : List (List Gl)} (h : GridG w gb lb m cap G) {r c : Nat} {l : List Gl} (hr : G[r]? = some l) (hc : c < m) : r * m + c < G.flatten.length ∧ cellAt G.flatten (r * m + c) = cellAt l c := by
  obtain ⟨h1, _, h2⟩ := h.row hr
  have hf := (flat_at h.shape hr hc).trans (get_cellAt (l := l) (by omega))
  exact ⟨(List.getElem?_eq_some_iff.1 hf).1, cellAt_of hf⟩
theorem set_shape {m : Nat} {G : List (List Gl)} (h : ∀ l ∈ G, l.length = m) {r : Nat} {l : List Gl} (hl : l.length = m) : ∀ k ∈ G.set r l, k.length = m := by
  intro k hk
  rcases List.mem_or_eq_of_mem_set hk with h1 | rfl
  · exact h k h1
  · exact hl
theorem set_wf {G : List (List Gl)} (h : ∀ l ∈ G, wfRow l) {r : Nat} {l : List Gl} (hl : wfRow l) : ∀ k ∈ G.set r l, wfRow k := by
  intro k hk
  rcases List.mem_or_eq_of_mem_set hk with h1 | rfl
  · exact h k h1
  · exact hl
theorem GridG.mk' {w : World} {gb lb m cap : Nat} {G : List (List Gl)} (h : GridG w gb lb m cap G) {w' : World} {r : Nat} {l : List Gl} (hg : GridAt w' gb lb G.length m cap (G.set r l).flatten) (hl : l.length = m) (hw : wfRow l) : GridG w' gb lb m cap (G.set r l) :=
  ⟨by rw [List.length_set]; exact hg, set_shape h.shape hl, set_wf h.wf hw, by rw [List.length_set]; exact h.small⟩

/-- loose, by rows -/
theorem loose_G (gb lb m cap r c : Nat) (G : List (List Gl)) (l : List Gl) (w : World) (hG : GridG w gb lb m cap G) (hr : G[r]? = some l) (hc : c < m) :
    Calls Tryz.prog 103 #[.pointer (some ⟨gb, 0, none⟩), .int .i64 (r * m + c : Nat)] w fun e w' => e = .returned (.tuple #[]) ∧ w.grownBy w' (some lb) ∧ GridG w' gb lb m cap (G.set r (looseRow l c)) := by
  obtain ⟨hl, hw, hrl⟩ := hG.row hr
  obtain ⟨hi, hat⟩ := hG.index hr hc
  have hcl : c < l.length := by omega
  have hwl := wf_loose hw hcl
  have hll := looseRow_len l c
  have hfin := hw c hcl
  unfold fine at hfin
  rcases hfin with ⟨h1, _, h2, _⟩ | h1 | ⟨h1, h2, _⟩
  · refine (loose_zero gb lb G.length m cap (r * m + c) G.flatten w hG.grid hi (by omega) hG.small (by rw [hat]; exact h1)).mono ?_
    rintro e w' ⟨rfl, hg, hG'⟩
    refine ⟨rfl, hg, hG.mk' ?_ (by omega) hwl⟩
    have e1 : r * m + c - 1 = r * m + (c - 1) := by omega
    rw [e1, flat_set hG.shape _ hr (by omega), flat_set (set_shape hG.shape (by rw [List.length_set]; exact hl)) _ (List.getElem?_set_self hrl) hc, List.set_set] at hG'
    have : looseRow l c = (l.set (c - 1) blankC).set c blankC := by unfold looseRow; rw [if_pos h1]
    rw [this]; exact hG'
  · refine (loose_one gb lb G.length m cap (r * m + c) G.flatten w hG.grid hi (by rw [hat]; exact h1)).mono ?_
    rintro e w' ⟨rfl, hg, hG'⟩
    refine ⟨rfl, hg, hG.mk' ?_ (by omega) hwl⟩
    rw [flat_set hG.shape _ hr hc] at hG'
    have : looseRow l c = l.set c blankC := by unfold looseRow; rw [if_neg (by omega), if_neg (by omega)]
    rw [this]; exact hG'
  · have hc1 : c + 1 < m := by omega
    refine (loose_two gb lb G.length m cap (r * m + c) G.flatten w hG.grid (hG.index hr hc1).1 hG.small (by rw [hat]; exact h1)).mono ?_
    rintro e w' ⟨rfl, hg, hG'⟩
    refine ⟨rfl, hg, hG.mk' ?_ (by omega) hwl⟩
    have e1 : r * m + c + 1 = r * m + (c + 1) := by omega
    rw [e1, flat_set hG.shape _ hr hc1, flat_set (set_shape hG.shape (by rw [List.length_set]; exact hl)) _ (List.getElem?_set_self hrl) hc, List.set_set] at hG'
    have : looseRow l c = (l.set (c + 1) blankC).set c blankC := by unfold looseRow; rw [if_neg (by omega), if_pos h1]
    rw [this]; exact hG'

theorem GridG.grown {w w' : World} {gb lb m cap : Nat} {G : List (List Gl)} (h : GridG w gb lb m cap G) (hg : w'.heap[gb]? = w.heap[gb]?) (hl : w'.heap[lb]? = w.heap[lb]?) : GridG w' gb lb m cap G := ⟨h.grid.same hg hl, h.shape, h.wf, h.small⟩
end Go.Proofs.YtkeainhjghdfcaaGreat

/- grid.Put. -/
namespace Go.Proofs.YtkeainhjghdfcaaGreat
open Go.RowKit

theorem grown_cell {w w' : World} {r : Nat} {a : Addr} {v : Value} (h : w.grownBy w' (some r)) (hc : w.cell? a = some v) (hne : a.block ≠ r) : w'.cell? a = some v := h.cell hc (by simpa using hne)

/-- loose's contract, its index as the walk has it -/
theorem loose_Gi (gb lb m cap r c q : Nat) (G : List (List Gl)) (l : List Gl) (w : World) (hG : GridG w gb lb m cap G) (hr : G[r]? = some l) (hc : c < m) (hq : q = r * m) :
    Calls Tryz.prog 103 #[.pointer (some ⟨gb, 0, none⟩), .int .i64 ((q : Int) + (c : Int))] w fun e w' => e = .returned (.tuple #[]) ∧ w.grownBy w' (some lb) ∧ GridG w' gb lb m cap (G.set r (looseRow l c)) := by
  have h := loose_G gb lb m cap r c G l w hG hr hc
  rw [← hq, Int.natCast_add] at h
  exact h

theorem loose_Gj (gb lb m cap r c q : Nat) (G : List (List Gl)) (l : List Gl) (w : World) (hG : GridG w gb lb m cap G) (hr : G[r]? = some l) (hc : c + 1 < m) (hq : q = r * m) :
    Calls Tryz.prog 103 #[.pointer (some ⟨gb, 0, none⟩), .int .i64 ((q : Int) + (c : Int) + 1)] w fun e w' => e = .returned (.tuple #[]) ∧ w.grownBy w' (some lb) ∧ GridG w' gb lb m cap (G.set r (looseRow l (c + 1))) := by
  have h := loose_Gi gb lb m cap r (c + 1) q G l w hG hr hc hq
  rw [Int.natCast_add, ← Int.add_assoc] at h
  exact h

set_option maxRecDepth 100000 in
set_option maxHeartbeats 1000000 in
theorem put_one (gb lb m cap r c : Nat) (G : List (List Gl)) (l : List Gl) (x : Gl) (w : World) (hG : GridG w gb lb m cap G) (hr : G[r]? = some l) (hc : c < m) (hx : x.2 = 1) :
    Calls Tryz.prog 63 #[.pointer (some ⟨gb, 0, none⟩), .int .i64 r, .int .i64 c, .agg #[.string x.1, .int .i64 x.2]] w fun e w' => e = .returned (.bool true) ∧ w.grownBy w' (some lb) ∧ GridG w' gb lb m cap (G.set r (putRow l c x)) := by
  obtain ⟨hl, hw, hrl⟩ := hG.row hr
  obtain ⟨t, d⟩ := x
  dsimp only at hx ⊢
  subst hx
  obtain ⟨q, hq⟩ : ∃ q, q = r * m := ⟨_, rfl⟩
  have hqi : (r : Int) * (m : Int) = (q : Int) := by rw [hq, Int.natCast_mul]
  have hix := (hG.index hr hc).1
  have hsm := hG.small
  have hln := hG.grid.len
  rw [← hq] at hix
  have hgl := hG.grid.glt
  have hll := hG.grid.llt hix
  have c0 := hG.grid.c0
  have c1 := hG.grid.c1
  have hne : ¬ gb = lb := hG.grid.ne
  have hne' : ¬ lb = gb := fun e => hG.grid.ne e.symm
  have hput : putRow l c (t, 1) = (looseRow l c).set c (t, 1) := by unfold putRow; rw [if_neg (show ¬ (1 : Int) = 2 by decide)]
  have HP := Lib.hid hput
  have hGs := hG.shape
  have hGw := hG.wf
  have hwp : wfRow (putRow l c (t, 1)) := wf_put hw (by omega) (.inl rfl)
  have HQ := Lib.hid hq
  clear hq hput
  go_enter Tryz.func63, Tryz.ntmps63
  go_wp2_with (first | (go_at_call 84; refine (in_yes gb G.length m _ _ _ (by go_simp) (by go_simp) (by omega) (by omega) (by omega) (by omega)).mono ?_; rintro e w' ⟨rfl, rfl⟩))
  have hGx : GridG (w.alloc (.cells #[.string t, .int .i64 1] 97)) gb lb m cap G := hG.grown (Below.heap_alloc _ _ _ hgl) (Below.heap_alloc _ _ _ hll)
  refine (loose_Gi gb lb m cap r c q G l _ hGx hr hc HQ.out).mono ?_
  rintro e w2 ⟨rfl, hg2, hG2⟩
  have x0 : w2.cell? ⟨w.heap.size, 0, none⟩ = some (.string t) := grown_cell hg2 (by go_simp) (by show w.heap.size ≠ lb; omega)
  have x1 : w2.cell? ⟨w.heap.size, 1, none⟩ = some (.int .i64 1) := grown_cell hg2 (by go_simp) (by show w.heap.size ≠ lb; omega)
  have hgw : w.grownBy w2 (some lb) := ⟨hg2.os, hg2.tape, hg2.output, Nat.le_trans (by simp) hg2.size, fun j hj hn => (hg2.block j (by simp; omega) hn).trans (Below.heap_alloc _ _ _ hj)⟩
  have hr2 : (G.set r (looseRow l c))[r]? = some (looseRow l c) := List.getElem?_set_self hrl
  have hix2 := (hG2.index hr2 hc).1
  rw [← HQ.out] at hix2
  obtain ⟨d2, s0, s1, v0, v1, hlb2, hgb2⟩ := hG2.grid.facts hix2
  rw [List.length_set] at d2
  have hk1 : (q : Int) + (c : Int) < ((G.length * m : Nat) : Int) := by omega
  have hk0 : (0 : Int) ≤ (q : Int) + (c : Int) := by omega
  have hk2 : (q : Int) + (c : Int) < (G.length : Int) * (m : Int) := by rw [← Int.natCast_mul]; exact hk1
  have hk3 : ((q : Int) + (c : Int)).toNat = q + c := by omega
  have hnx : ¬ w.heap.size = lb := by omega
  have hnx' : ¬ lb = w.heap.size := by omega
  clear hG hGx hg2 hw hix hqi c0 c1
  go_wp2
  go_region_held3 (fun w' => w'.cell? ⟨gb, 2, none⟩ = some (.slice (some ⟨lb, 0, none⟩) (G.length * m) cap) ∧ w'.cell? ⟨w.heap.size, 0, none⟩ = some (.string t) ∧ w'.cell? ⟨w.heap.size, 1, none⟩ = some (.int .i64 1)) (go_keep) (first | fail)
  go_wp2
  go_ret
  have hp := hG2.grid.put0 hix2 (t, 1)
  refine ⟨rfl, grown_trans hgw hp.2, ?_⟩
  rw [HP.out]
  have hsh : ∀ k ∈ G.set r (looseRow l c), k.length = m := set_shape hGs (by rw [looseRow_len]; exact hl)
  have h3 := hp.1
  rw [HQ.out, flat_set hsh _ hr2 hc, List.set_set, List.length_set] at h3
  rw [HQ.out]
  exact ⟨by rw [List.length_set]; exact h3, set_shape hGs (by rw [List.length_set, looseRow_len]; exact hl), set_wf hGw (by rw [← HP.out]; exact hwp), by rw [List.length_set]; exact hsm⟩
set_option maxRecDepth 100000 in
set_option maxHeartbeats 1000000 in
theorem put_two (gb lb m cap r c : Nat) (G : List (List Gl)) (l : List Gl) (x : Gl) (w : World) (hG : GridG w gb lb m cap G) (hr : G[r]? = some l) (hc0 : c + 1 < m) (hx : x.2 = 2) :
    Calls Tryz.prog 63 #[.pointer (some ⟨gb, 0, none⟩), .int .i64 r, .int .i64 c, .agg #[.string x.1, .int .i64 x.2]] w fun e w' => e = .returned (.bool true) ∧ w.grownBy w' (some lb) ∧ GridG w' gb lb m cap (G.set r (putRow l c x)) := by
  have hc : c < m := by omega
  obtain ⟨hl, hw, hrl⟩ := hG.row hr
  obtain ⟨t, d⟩ := x
  dsimp only at hx ⊢
  subst hx
  obtain ⟨q, hq⟩ : ∃ q, q = r * m := ⟨_, rfl⟩
  have hqi : (r : Int) * (m : Int) = (q : Int) := by rw [hq, Int.natCast_mul]
  have hix := (hG.index hr hc).1
  have hsm := hG.small
  have hln := hG.grid.len
  rw [← hq] at hix
  have hgl := hG.grid.glt
  have hll := hG.grid.llt hix
  have c0 := hG.grid.c0
  have c1 := hG.grid.c1
  have hne : ¬ gb = lb := hG.grid.ne
  have hne' : ¬ lb = gb := fun e => hG.grid.ne e.symm
  have hput : putRow l c (t, 2) = ((looseRow (looseRow l c) (c + 1)).set (c + 1) zeroC).set c (t, 2) := by unfold putRow; rw [if_pos rfl]
  have HP := Lib.hid hput
  have hGs := hG.shape
  have hGw := hG.wf
  have hwp : wfRow (putRow l c (t, 2)) := wf_put hw (by omega) (.inr ⟨rfl, by omega⟩)
  have HQ := Lib.hid hq
  clear hq hput
  go_enter Tryz.func63, Tryz.ntmps63
  go_wp2_with (first | (go_at_call 84; refine (in_yes gb G.length m _ _ _ (by go_simp) (by go_simp) (by omega) (by omega) (by omega) (by omega)).mono ?_; rintro e w' ⟨rfl, rfl⟩))
  have hGx : GridG (w.alloc (.cells #[.string t, .int .i64 2] 97)) gb lb m cap G := hG.grown (Below.heap_alloc _ _ _ hgl) (Below.heap_alloc _ _ _ hll)
  refine (loose_Gi gb lb m cap r c q G l _ hGx hr hc HQ.out).mono ?_
  rintro e w2 ⟨rfl, hg2, hG2⟩
  have x0 : w2.cell? ⟨w.heap.size, 0, none⟩ = some (.string t) := grown_cell hg2 (by go_simp) (by show w.heap.size ≠ lb; omega)
  have x1 : w2.cell? ⟨w.heap.size, 1, none⟩ = some (.int .i64 2) := grown_cell hg2 (by go_simp) (by show w.heap.size ≠ lb; omega)
  have hgw : w.grownBy w2 (some lb) := ⟨hg2.os, hg2.tape, hg2.output, Nat.le_trans (by simp) hg2.size, fun j hj hn => (hg2.block j (by simp; omega) hn).trans (Below.heap_alloc _ _ _ hj)⟩
  have hr2 : (G.set r (looseRow l c))[r]? = some (looseRow l c) := List.getElem?_set_self hrl
  have hix2 := (hG2.index hr2 hc).1
  rw [← HQ.out] at hix2
  have hqc : (q : Int) + (c : Int) + 1 ≤ 1073741824 := by omega
  clear hix hqi
  have hlb2 := hG2.grid.llt hix2
  have hgb2 := hG2.grid.glt
  go_wp2_with fail
  refine (loose_Gj gb lb m cap r c q _ _ _ hG2 hr2 hc0 HQ.out).mono ?_
  rintro e w3 ⟨rfl, hg3, hG3⟩
  rw [List.set_set] at hG3
  have y0 : w3.cell? ⟨w.heap.size, 0, none⟩ = some (.string t) := grown_cell hg3 x0 (by show w.heap.size ≠ lb; omega)
  have y1 : w3.cell? ⟨w.heap.size, 1, none⟩ = some (.int .i64 2) := grown_cell hg3 x1 (by show w.heap.size ≠ lb; omega)
  have hg23 := grown_trans hgw hg3
  have hr3 : (G.set r (looseRow (looseRow l c) (c + 1)))[r]? = some (looseRow (looseRow l c) (c + 1)) := List.getElem?_set_self hrl
  have hix3 := (hG3.index hr3 hc).1
  have hix4 := (hG3.index hr3 hc0).1
  rw [← HQ.out] at hix3 hix4
  obtain ⟨d2, s0, s1, v0, v1, hlb3, hgb3⟩ := hG3.grid.facts hix3
  obtain ⟨_, p0, p1, z0, z1, _, _⟩ := hG3.grid.facts hix4
  rw [List.length_set] at d2
  have hln3 := hG3.grid.len
  rw [List.length_set] at hln3
  have hk1 : (q : Int) + (c : Int) < ((G.length * m : Nat) : Int) := by omega
  have hk0 : (0 : Int) ≤ (q : Int) + (c : Int) := by omega
  have hk2 : (q : Int) + (c : Int) < (G.length : Int) * (m : Int) := by rw [← Int.natCast_mul]; exact hk1
  have hk3 : ((q : Int) + (c : Int)).toNat = q + c := by omega
  have hj1 : (q : Int) + (c : Int) + 1 < ((G.length * m : Nat) : Int) := by omega
  have hj0 : (0 : Int) ≤ (q : Int) + (c : Int) + 1 := by omega
  have hj2 : (q : Int) + (c : Int) + 1 < (G.length : Int) * (m : Int) := by rw [← Int.natCast_mul]; exact hj1
  have hj3 : ((q : Int) + (c : Int) + 1).toNat = q + (c + 1) := by omega
  have hnx : ¬ w.heap.size = lb := by omega
  have hnx' : ¬ lb = w.heap.size := by omega
  clear hG hGx hg2 hw c0 c1 x0 x1
  go_wp2
  have h4 := hG3.grid.set hix4 zeroC
  have g4 := (hG3.grid.put0 hix4 zeroC).2
  dsimp only [zeroC] at h4 g4
  have g4' : w3.grownBy ((w3.setCell ⟨lb, (q + (c + 1)) * 2, none⟩ (Value.string ⟨#[]⟩)).setCell ⟨lb, (q + (c + 1)) * 2 + 1, none⟩ (Value.int .i64 0)) (some lb) := ⟨g4.os, g4.tape, g4.output, g4.size, g4.block⟩
  clear g4 s0 s1 v0 v1 p0 p1 z0 z1 d2
  generalize ((w3.setCell ⟨lb, (q + (c + 1)) * 2, none⟩ (Value.string ⟨#[]⟩)).setCell ⟨lb, (q + (c + 1)) * 2 + 1, none⟩ (Value.int .i64 0)) = W4 at h4 g4' ⊢
  have x0 : W4.cell? ⟨w.heap.size, 0, none⟩ = some (.string t) := grown_cell g4' y0 (by show w.heap.size ≠ lb; omega)
  have x1 : W4.cell? ⟨w.heap.size, 1, none⟩ = some (.int .i64 2) := grown_cell g4' y1 (by show w.heap.size ≠ lb; omega)
  have hix5 : q + c < ((G.set r (looseRow (looseRow l c) (c + 1))).flatten.set (q + (c + 1)) (⟨#[]⟩, 0)).length := by rw [List.length_set]; exact hix3
  obtain ⟨d2, s0, s1, v0, v1, hlb4, hgb4⟩ := h4.facts hix5
  rw [List.length_set] at d2
  clear y0 y1
  go_region_held3 (fun w' => w'.cell? ⟨gb, 2, none⟩ = some (.slice (some ⟨lb, 0, none⟩) (G.length * m) cap) ∧ w'.cell? ⟨w.heap.size, 0, none⟩ = some (.string t) ∧ w'.cell? ⟨w.heap.size, 1, none⟩ = some (.int .i64 2)) (go_keep) (first | fail)
  go_wp2
  go_ret
  have hp := h4.put0 hix5 (t, 2)
  refine ⟨rfl, grown_trans hg23 (grown_trans g4' hp.2), ?_⟩
  rw [HP.out]
  have hsh : ∀ k ∈ G.set r (looseRow (looseRow l c) (c + 1)), k.length = m := set_shape hGs (by rw [looseRow_len, looseRow_len]; exact hl)
  have h3 := hp.1
  have hsh2 : ∀ k ∈ (G.set r (looseRow (looseRow l c) (c + 1))).set r ((looseRow (looseRow l c) (c + 1)).set (c + 1) (⟨#[]⟩, 0)), k.length = m := set_shape hsh (by rw [List.length_set, looseRow_len, looseRow_len]; exact hl)
  have hr4 : ((G.set r (looseRow (looseRow l c) (c + 1))).set r ((looseRow (looseRow l c) (c + 1)).set (c + 1) (⟨#[]⟩, 0)))[r]? = some ((looseRow (looseRow l c) (c + 1)).set (c + 1) (⟨#[]⟩, 0)) := List.getElem?_set_self (by rw [List.length_set]; exact hrl)
  rw [HQ.out, flat_set hsh _ hr3 hc0, flat_set hsh2 _ hr4 hc, List.set_set, List.set_set, List.length_set] at h3
  rw [HQ.out]
  exact ⟨by rw [List.length_set]; exact h3, set_shape hGs (by rw [List.length_set, List.length_set, looseRow_len, looseRow_len]; exact hl), set_wf hGw (by rw [← HP.out]; exact hwp), by rw [List.length_set]; exact hsm⟩
end Go.Proofs.YtkeainhjghdfcaaGreat

/- grid: Put where there is no room; Erase; Clear; Size; At. -/
namespace Go.Proofs.YtkeainhjghdfcaaGreat
open Go.RowKit

def roomy (n m : Nat) (r c d : Int) : Prop := 0 ≤ r ∧ r < n ∧ 0 ≤ c ∧ c < m ∧ (d = 1 ∨ d = 2 ∧ c + 1 < m)

set_option maxRecDepth 100000 in
set_option maxHeartbeats 1000000 in
theorem put_no (gb n m : Nat) (r c d : Int) (t : ByteArray) (w : World) (c0 : w.cell? ⟨gb, 0, none⟩ = some (.int .i64 n)) (c1 : w.cell? ⟨gb, 1, none⟩ = some (.int .i64 m)) (hm : m ≤ 1073741824) (h : ¬ roomy n m r c d) :
    Calls Tryz.prog 63 #[.pointer (some ⟨gb, 0, none⟩), .int .i64 r, .int .i64 c, .agg #[.string t, .int .i64 d]] w fun e w' => e = .returned (.bool false) ∧ Below w.heap.size w w' := by
  have hgb := World.block_lt_of_cell? w _ c0
  unfold roomy at h
  by_cases h1 : 0 ≤ r ∧ r < n ∧ 0 ≤ c ∧ c < m
  · have h2 : d < 1 ∨ (1 ≤ d ∧ 2 < d) ∨ (d = 2 ∧ c + 1 = m) := by omega
    rcases h2 with h2 | ⟨h2, h3⟩ | ⟨h2, h3⟩
    · go_enter Tryz.func63, Tryz.ntmps63
      go_wp2_with (go_at_call 84; refine (in_yes gb n m _ _ _ (by go_simp) (by go_simp) h1.1 h1.2.1 h1.2.2.1 h1.2.2.2).mono ?_; rintro e w' ⟨rfl, rfl⟩)
      go_ret
      exact ⟨rfl, (Below.refl _ _).alloc (Nat.le_refl _) _⟩
    · go_enter Tryz.func63, Tryz.ntmps63
      go_wp2_with (go_at_call 84; refine (in_yes gb n m _ _ _ (by go_simp) (by go_simp) h1.1 h1.2.1 h1.2.2.1 h1.2.2.2).mono ?_; rintro e w' ⟨rfl, rfl⟩)
      go_ret
      exact ⟨rfl, (Below.refl _ _).alloc (Nat.le_refl _) _⟩
    · subst h2
      obtain ⟨q1, q2, q3, q4⟩ := h1
      go_enter Tryz.func63, Tryz.ntmps63
      go_wp2_with fail
      refine (in_yes gb n m _ _ _ (by go_simp) (by go_simp) q1 q2 q3 q4).mono ?_
      rintro e w' ⟨rfl, rfl⟩
      go_wp2_with fail
      refine (in_no gb n m _ _ _ (by go_simp) (by go_simp) (by omega)).mono ?_
      rintro e w' ⟨rfl, rfl⟩
      go_wp2
      go_ret
      exact ⟨rfl, (Below.refl _ _).alloc (Nat.le_refl _) _⟩
  · clear h
    go_enter Tryz.func63, Tryz.ntmps63
    go_wp2_with (go_at_call 84; refine (in_no gb n m _ _ _ (by go_simp) (by go_simp) h1).mono ?_; rintro e w' ⟨rfl, rfl⟩)
    go_ret
    exact ⟨rfl, (Below.refl _ _).alloc (Nat.le_refl _) _⟩

set_option maxRecDepth 100000 in
set_option maxHeartbeats 1000000 in
theorem put_nil (r c d : Int) (t : ByteArray) (w : World) :
    Calls Tryz.prog 63 #[.pointer none, .int .i64 r, .int .i64 c, .agg #[.string t, .int .i64 d]] w fun e w' => e = .returned (.bool false) ∧ Below w.heap.size w w' := by
  go_enter Tryz.func63, Tryz.ntmps63
  go_wp2_with (go_at_call 84; refine (in_nil _ _ _).mono ?_; rintro e w' ⟨rfl, rfl⟩)
  go_ret
  exact ⟨rfl, (Below.refl _ _).alloc (Nat.le_refl _) _⟩

set_option maxRecDepth 100000 in
set_option maxHeartbeats 400000 in
theorem size_some (gb n m : Nat) (w : World) (c0 : w.cell? ⟨gb, 0, none⟩ = some (.int .i64 n)) (c1 : w.cell? ⟨gb, 1, none⟩ = some (.int .i64 m)) :
    Calls Tryz.prog 29 #[.pointer (some ⟨gb, 0, none⟩)] w fun e w' => e = .returned (.tuple #[.int .i64 n, .int .i64 m]) ∧ Below w.heap.size w w' := by
  go_enter Tryz.func29, Tryz.ntmps29
  go_wp2
  go_quiet (fail)
  go_wp2
  go_ret2
  exact ⟨rfl, ⟨rfl, rfl, rfl, Nat.le_refl _, fun _ _ => rfl⟩⟩

set_option maxHeartbeats 400000 in
theorem size_nil (w : World) :
    Calls Tryz.prog 29 #[.pointer none] w fun e w' => e = .returned (.tuple #[.int .i64 0, .int .i64 0]) ∧ w = w' := by
  go_enter Tryz.func29, Tryz.ntmps29
  go_wp2
  go_ret2
  exact ⟨rfl, rfl⟩
end Go.Proofs.YtkeainhjghdfcaaGreat

/- grid: Erase, Clear. -/
namespace Go.Proofs.YtkeainhjghdfcaaGreat
open Go.RowKit


/-- The first k cells made blank. -/
def wiped (xs : List Gl) (k : Nat) : List Gl := List.replicate k blankC ++ xs.drop k
theorem wiped_succ (xs : List Gl) (k : Nat) (hk : k < xs.length) : (wiped xs k).set k blankC = wiped xs (k + 1) := by
  unfold wiped
  rw [List.set_append_right _ _ (by simp), List.length_replicate, Nat.sub_self, List.replicate_succ', List.append_assoc, List.drop_eq_getElem_cons hk]
  rfl
theorem wiped_len (xs : List Gl) (k : Nat) (hk : k ≤ xs.length) : (wiped xs k).length = xs.length := by unfold wiped; simp; omega
theorem flatten_blank (n m : Nat) : (List.replicate n (List.replicate m blankC)).flatten = List.replicate (n * m) blankC := by
  induction n with
  | zero => simp
  | succ n ih => rw [List.replicate_succ, List.flatten_cons, ih, Nat.succ_mul, Nat.add_comm (n * m) m, List.replicate_append_replicate]

end Go.Proofs.YtkeainhjghdfcaaGreat

/- grid.New. -/
namespace Go.Proofs.YtkeainhjghdfcaaGreat
open Go.RowKit

theorem Egc : ElemT Tryz.prog 39 48 2 24 := elemT_of (by kernel_rfl) (z := .agg #[.string ⟨#[]⟩, .int .i64 0]) (by kernel_rfl) rfl (by decide) (by decide)
theorem info_gc : (Tryz.prog.info? 48).map (fun i => (i.zero, i.size, i.bytes)) = some (some (.agg #[.string ⟨#[]⟩, .int .i64 0]), 2, 24) := by kernel_rfl

theorem made_get (N j : Nat) (u : Value) (h : ((List.replicate N zeroC).flatMap genc)[j]? = some u) : (madeCells #[.string ⟨#[]⟩, .int .i64 0] (N * 2)).toList[j]? = some u := by
  obtain ⟨i, y, hy, q, hq, rfl, hqu⟩ := flat_index genc_len _ j u h
  rw [List.getElem?_replicate] at hy
  split at hy
  · rename_i hi
    obtain rfl : zeroC = y := by simpa using hy
    unfold madeCells
    rw [Array.getElem?_toList, Array.getElem?_map, Array.getElem?_range, if_pos (by omega)]
    have : (i * 2 + q) % 2 = q := by omega
    simp only [Option.map_some]
    rcases (show q = 0 ∨ q = 1 by omega) with rfl | rfl
    · simp at this; simp [genc, zeroC] at hqu; simp [hqu]
    · simp [genc, zeroC] at hqu; simp [hqu, this]
  · cases hy

theorem gridAt_mk {w : World} {gb lb n m cap base : Nat} {xs : List Gl} {ys : List Value} (ho : w.ownsRow base 48 2 (.slice (some ⟨lb, 0, none⟩) (n * m) cap) (n * m) ys) (hy : ∀ (j : Nat) (u : Value), (xs.flatMap genc)[j]? = some u → ys[j]? = some u)
    (c0 : w.cell? ⟨gb, 0, none⟩ = some (.int .i64 n)) (c1 : w.cell? ⟨gb, 1, none⟩ = some (.int .i64 m)) (c2 : w.cell? ⟨gb, 2, none⟩ = some (.slice (some ⟨lb, 0, none⟩) (n * m) cap)) (hne : gb ≠ lb) (hl : xs.length = n * m) (hcap : n * m ≤ cap) (hcm : cap ≤ maxLen) :
    GridAt w gb lb n m cap xs :=
  ⟨c0, c1, c2, hne, hl, hcap, hcm, fun j u hu => by
    have hj := (List.getElem?_eq_some_iff.1 hu).1
    rw [flat_len genc_len, hl] at hj
    exact (ho.cellAt j hj).trans (hy j u hu), fun j => ho.frozenAt j⟩

set_option maxRecDepth 100000 in
set_option maxHeartbeats 400000 in
theorem new_none (n m : Int) (w : World) (h : n < 1 ∨ 500 < n ∨ m < 2 ∨ 1000 < m) :
    Calls Tryz.prog 62 #[.int .i64 n, .int .i64 m] w fun e w' => e = .returned (.pointer none) ∧ w = w' := by
  have h' : n < 1 ∨ (1 ≤ n ∧ 500 < n) ∨ (1 ≤ n ∧ n ≤ 500 ∧ m < 2) ∨ (1 ≤ n ∧ n ≤ 500 ∧ 2 ≤ m ∧ 1000 < m) := by omega
  clear h
  rcases h' with h1 | ⟨h1, h2⟩ | ⟨h1, h2, h3⟩ | ⟨h1, h2, h3, h4⟩
  all_goals
    go_enter Tryz.func62, Tryz.ntmps62
    go_wp2
    go_ret
    exact ⟨rfl, rfl⟩

set_option maxRecDepth 100000 in
set_option maxHeartbeats 1000000 in
theorem new_some (n m : Nat) (w : World) (h1 : 1 ≤ n) (h2 : n ≤ 500) (h3 : 2 ≤ m) (h4 : m ≤ 1000) :
    Calls Tryz.prog 62 #[.int .i64 n, .int .i64 m] w fun e w' => ∃ gb lb, e = .returned (.pointer (some ⟨gb, 0, none⟩)) ∧ w.heap.size ≤ gb ∧ w.heap.size ≤ lb ∧ Below w.heap.size w w' ∧ GridG w' gb lb m (n * m) (List.replicate n (List.replicate m blankC)) := by
  obtain ⟨ie, hie, hze, hse, hbe⟩ := info_parts info_gc
  have hnm : n * m ≤ 500 * 1000 := Nat.mul_le_mul h2 h4
  have hnm0 : 0 < n * m := Nat.mul_pos h1 (by omega)
  obtain ⟨N, hN⟩ : ∃ N, N = n * m := ⟨_, rfl⟩
  have hNi : (n : Int) * (m : Int) = (N : Int) := by rw [hN, Int.natCast_mul]
  rw [← hN] at hnm hnm0 ⊢
  have HN := Lib.hid hN
  clear hN
  have q1 : decide ((n : Int) < 1) = false := decide_eq_false (by omega)
  have q2 : decide ((500 : Int) < n) = false := decide_eq_false (by omega)
  have q3 : decide ((m : Int) < 2) = false := decide_eq_false (by omega)
  have q4 : decide ((1000 : Int) < m) = false := decide_eq_false (by omega)
  go_enter Tryz.func62, Tryz.ntmps62
  go_wp2_with (at_make; refine wpList_make_full _ rfl _ _ _ rfl w.heap.size 48 ie _ 2 Egc.und hie hze hse _ _ _ _ N rfl rfl rfl rfl (by rw [hbe]; omega) (by unfold maxLen; omega) (Nat.le_refl _) ?_; intro w1 ho1 hg1)
  have hlt1 := ho1.lt w.heap.size rfl
  have hB1 : Below w.heap.size w w1 := (Below.refl _ w).grown hg1 (Nat.le_refl _) (fun k e => by cases e)
  have hG0 : GridAt (w1.alloc (.cells #[.int .i64 n, .int .i64 m, .slice (some ⟨w.heap.size, 0, none⟩) N N] 145)) w1.heap.size w.heap.size n m (n * m) (List.replicate (n * m) zeroC) := by
    rw [HN.out] at ho1 ⊢
    exact gridAt_mk (ho1.alloc _) (fun j u hu => made_get (n * m) j u hu) (by go_simp) (by go_simp) (by go_simp) (by omega) (by simp) (Nat.le_refl _) (by rw [← HN.out]; unfold maxLen; omega)
  have hBx : Below w.heap.size w (w1.alloc (.cells #[.int .i64 n, .int .i64 m, .slice (some ⟨w.heap.size, 0, none⟩) N N] 145)) := hB1.alloc (by omega) _
  have hfin : ∀ w', GridAt w' w1.heap.size w.heap.size n m (n * m) (wiped (List.replicate (n * m) zeroC) (n * m)) → GridG w' w1.heap.size w.heap.size m (n * m) (List.replicate n (List.replicate m blankC)) := by
    intro w' h
    refine ⟨?_, ?_, ?_, by rw [List.length_replicate, ← HN.out]; omega⟩
    · rw [List.length_replicate, flatten_blank]
      have : wiped (List.replicate (n * m) zeroC) (n * m) = List.replicate (n * m) blankC := by unfold wiped; rw [List.drop_of_length_le (by simp), List.append_nil]
      rw [← this]; exact h
    · intro l hl; rw [(List.mem_replicate.1 hl).2]; simp
    · intro l hl; rw [(List.mem_replicate.1 hl).2]; exact wf_blank m
  have HF := Lib.hid hfin
  have HO := Lib.hid ho1
  clear hfin ho1
  go_loopw [34] (fun i wr => ∃ k : Nat, k ≤ N ∧ i = .int .i64 k ∧ Below w.heap.size w wr ∧ GridAt wr w1.heap.size w.heap.size n m (n * m) (wiped (List.replicate (n * m) zeroC) k)) (fun i _ => N - (intOf i).toNat)
  case atStart => exact ⟨0, Nat.zero_le _, rfl, hBx, by simpa [wiped] using hG0⟩
  case round =>
    obtain ⟨k, hk, rfl, hB, hGr⟩ := hrel
    clear hG0 hBx hB1 hg1
    by_cases hlt : k < N
    · have hkx : k < (wiped (List.replicate (n * m) zeroC) k).length := by rw [wiped_len _ k (by rw [List.length_replicate, ← HN.out]; omega), List.length_replicate, ← HN.out]; exact hlt
      obtain ⟨c2, t0, t1, f0, f1, hlb, hgl⟩ := hGr.facts hkx
      rw [← HN.out] at c2
      have hne : ¬ w1.heap.size = w.heap.size := hGr.ne
      have hne' : ¬ w.heap.size = w1.heap.size := fun e => hGr.ne e.symm
      have hk0 : (0 : Int) ≤ (k : Int) := by omega
      have hk1 : (k : Int) < (N : Int) := by omega
      have HS := Lib.hid (wiped_succ (List.replicate (n * m) zeroC) k (by rw [List.length_replicate, ← HN.out]; exact hlt))
      rw [← HN.out] at t0 t1
      go_wp2
      go_region_held3 (fun w' => w'.cell? ⟨w1.heap.size, 2, none⟩ = some (.slice (some ⟨w.heap.size, 0, none⟩) N N)) (go_keep) (first | (go_at_call 33; refine (blank_any _).mono ?_; rintro e w' ⟨rfl, rfl⟩))
      have hp := hGr.put hkx blankC (.cells #[.string ⟨#[32]⟩, .int .i64 1] 48)
      rw [HS.out] at hp
      dsimp only [blankC] at hp
      generalize ((((wr.setCell ⟨w.heap.size, k * 2, none⟩ (Value.string ⟨#[32]⟩)).setCell ⟨w.heap.size, k * 2 + 1, none⟩ (Value.int .i64 1)).alloc (Obj.cells #[Value.string ⟨#[32]⟩, Value.int .i64 1] 48)).drew) = W1 at hp ⊢
      have hB2 : Below w.heap.size w W1 := hB.grown hp.2 hB.size (fun k e => by cases e; exact Nat.le_refl _)
      clear c2 t0 t1 f0 f1
      go_wp2
      refine ⟨⟨k + 1, by omega, by go_num, hB2, hp.1⟩, by simp [intOf]; omega⟩
    · have hkn : k = N := by omega
      subst hkn
      have HG := Lib.hid hGr
      clear hGr
      go_wp2
      go_ret
      refine ⟨_, w.heap.size, rfl, by omega, Nat.le_refl _, hB, ?_⟩
      have := HF.out wr (by have h := HG.out; rw [HN.out] at h; exact h)
      rw [HN.out]; exact this
end Go.Proofs.YtkeainhjghdfcaaGreat

/- grid: a row told. -/
namespace Go.Proofs.YtkeainhjghdfcaaGreat
open Go.RowKit

set_option maxRecDepth 100000 in
set_option maxHeartbeats 400000 in
theorem clone_cells (b off n cap : Nat) (xs : List Value) (w : World) (hn : 0 < n) (hl : xs.length = n * 2) (hsz : n ≤ 1073741824) (h1 : ∀ u ∈ xs, u.oneCell' = true)
    (hc : ∀ j u, xs[j]? = some u → w.cell? ⟨b, off + j, none⟩ = some u) :
    Calls Tryz.prog 104 #[.slice (some ⟨b, off, none⟩) n cap] w fun e w' => ∃ g c, e = .returned (.slice (some ⟨g, 0, none⟩) n c) ∧ w'.ownsRow w.heap.size 48 2 (.slice (some ⟨g, 0, none⟩) n c) n xs ∧ Below w.heap.size w w' := by
  have hnews : ∀ j u, xs[j]? = some u → (w.alloc (.cells #[] 48)).cell? ((⟨b, off, none⟩ : Addr).add j) = some u := by
    intro j u hu
    rw [addr_off]
    have hcu := hc j u hu
    exact (World.cell?_of_block (Below.heap_alloc _ _ _ (World.block_lt_of_cell? w _ hcu))).trans hcu
  have hnil := fun W : World => Lib.run_eql_slice_nil (P := Tryz.prog) W 39 48 (some ⟨b, off, none⟩) n cap 0 0 Tryz.underlying39
  have H1 := Lib.hid hnews
  have H2 := Lib.hid hl
  have H3 := Lib.hid h1
  clear hnews hl h1 hc
  go_enter Tryz.func104, Tryz.ntmps104
  go_wp2_with (at_builtin; refine wpList_app2 _ rfl _ _ _ rfl Egc _ 0 [] rfl (World.ownsRow_made w #[] 0 (Nat.le_refl _) (by unfold maxLen; omega) (by simp)) ⟨b, off, none⟩ n cap xs rfl hn H2.out H1.out H3.out (by omega) (by simp) ?_; intro g c w1 ho hg hf)
  have hB : Below w.heap.size w w1 := ((Below.refl _ _).alloc (Nat.le_refl _) _).grown hg (by simp) (fun k e => by cases e; exact Nat.le_refl _)
  have HO := Lib.hid ho
  clear ho hg hf
  go_ret
  have := HO.out
  simp only [Nat.zero_add, List.nil_append] at this
  exact ⟨g, c, by simp, this, hB⟩

theorem row_flat {m : Nat} {G : List (List Gl)} (hG : ∀ l ∈ G, l.length = m) {r : Nat} {l : List Gl} (hr : G[r]? = some l) (j : Nat) (u : Value) (h : (l.flatMap genc)[j]? = some u) : (G.flatten.flatMap genc)[r * m * 2 + j]? = some u := by
  obtain ⟨i, x, hx, k, hk, rfl, hu⟩ := flat_index genc_len l j u h
  have hi : i < m := by rw [← hG l (List.mem_of_getElem? hr)]; exact (List.getElem?_eq_some_iff.1 hx).1
  have h2 := (flat_at hG hr hi).trans hx
  have := flat_get genc_len G.flatten (r * m + i) x k u h2 hu
  rw [show r * m * 2 + (i * 2 + k) = (r * m + i) * 2 + k by omega]
  exact this

set_option maxRecDepth 100000 in
set_option maxHeartbeats 1000000 in
theorem row_some (gb lb m cap r : Nat) (G : List (List Gl)) (l : List Gl) (w : World) (hG : GridG w gb lb m cap G) (hr : G[r]? = some l) (hm : 0 < m) :
    Calls Tryz.prog 64 #[.pointer (some ⟨gb, 0, none⟩), .int .i64 r] w fun e w' => ∃ g c, e = .returned (.slice (some ⟨g, 0, none⟩) m c) ∧ w'.ownsRow w.heap.size 48 2 (.slice (some ⟨g, 0, none⟩) m c) m (l.flatMap genc) ∧ Below w.heap.size w w' := by
  obtain ⟨hl, hw, hrl⟩ := hG.row hr
  obtain ⟨q, hq⟩ : ∃ q, q = r * m := ⟨_, rfl⟩
  have hqm : q + m ≤ G.length * m := by rw [hq, ← Nat.succ_mul]; exact Nat.mul_le_mul_right _ hrl
  have hqi : (r : Int) * (m : Int) = (q : Int) := by rw [hq, Int.natCast_mul]
  have hqj : ((r : Int) + 1) * (m : Int) = (q : Int) + (m : Int) := by rw [Int.add_mul, hqi]; omega
  have hsm := hG.small
  have hcp := hG.grid.hcap
  have hcm := hG.grid.capm
  unfold maxLen at hcm
  have c0 := hG.grid.c0
  have c1 := hG.grid.c1
  have c2 := hG.grid.c2
  have hcl := clone_cells lb (q * 2) m (cap - q) (l.flatMap genc) w.drew hm (by rw [flat_len genc_len, hl]) (by omega) (fun u hu => by obtain ⟨x, _, hx⟩ := List.mem_flatMap.1 hu; exact genc_one x u hx)
    (fun j u hu => hG.grid.cells _ _ (by rw [hq]; exact row_flat hG.shape hr j u hu))
  have HC := Lib.hid hcl
  have e1 := IntWalk.i64_in (q : Int) (by omega)
  have e2 := IntWalk.i64_in ((r : Int) + 1) (by have : r < G.length := hrl; have : G.length ≤ G.length * m := Nat.le_mul_of_pos_right _ hm; omega)
  have e3 := IntWalk.i64_in ((q : Int) + (m : Int)) (by omega)
  have k0 : (0 : Int) ≤ (q : Int) := by omega
  have k1 : (q : Int) ≤ (q : Int) + (m : Int) := by omega
  have k2 : (q : Int) + (m : Int) ≤ (cap : Int) := by omega
  have k3 : ((q : Int) + (m : Int)).toNat = q + m := by omega
  have k4 : ¬ cap = q := by omega
  have hy := in_yes gb G.length m r 0 w c0 c1 (by omega) (by omega) (by omega) (by omega)
  have HY := Lib.hid hy
  clear hG hq hw hcl hr hl hy
  go_enter Tryz.func64, Tryz.ntmps64
  go_wp2_with (go_at_call 84; refine HY.out.mono ?_; rintro e w' ⟨rfl, rfl⟩)
  go_region_held3 (fun w' => w'.cell? ⟨gb, 2, none⟩ = some (.slice (some ⟨lb, 0, none⟩) (G.length * m) cap) ∧ w'.cell? ⟨gb, 1, none⟩ = some (.int .i64 m)) (first | exact ⟨p2, p1⟩ | go_keep) (first | (go_at_call 104; refine HC.out.mono ?_; rintro e w' ⟨g, c, rfl, ho, hB⟩; have p2 := cell_later hB (show w.drew.cell? _ = _ from c2); have p1 := cell_later hB (show w.drew.cell? _ = _ from c1)))
  have HO := Lib.hid ho
  have hB2 : Below w.heap.size w w' := ((Below.refl _ w).drew).trans hB
  clear ho hB
  go_wp2
  go_ret
  exact ⟨g, c, rfl, HO.out, hB2⟩
end Go.Proofs.YtkeainhjghdfcaaGreat

/- Boundaries around a place, plainly. -/
namespace Go.Proofs.YtkeainhjghdfcaaGreat

def isB (T : Tab) (s : List Int) (i : Nat) : Bool := decide (i = s.length) || begAt T s i
/-- the last boundary that is not behind a place -/
def floorB (T : Tab) (s : List Int) : Nat → Nat
  | 0 => 0
  | i + 1 => if isB T s (i + 1) then i + 1 else floorB T s i
/-- the first one that is not ahead of it -/
def ceilB (T : Tab) (s : List Int) (i : Nat) : Nat := i + fnb T (s.take i).reverse (s.drop i)
def floorI (T : Tab) (s : List Int) (a : Int) : Nat := if a ≤ 0 then 0 else if (s.length : Int) ≤ a then s.length else floorB T s a.toNat
def ceilI (T : Tab) (s : List Int) (a : Int) : Nat := if a ≤ 0 then 0 else if (s.length : Int) ≤ a then s.length else ceilB T s a.toNat
theorem isB_len (T : Tab) (s : List Int) : isB T s s.length = true := by simp [isB]
theorem isB_lt {T : Tab} {s : List Int} {i : Nat} (h : i < s.length) : isB T s i = begAt T s i := by
  unfold isB
  rw [decide_eq_false (by omega), Bool.false_or]
theorem floorB_eq {T : Tab} {s : List Int} {f : Nat} : ∀ {a : Nat}, f ≤ a → (f = 0 ∨ isB T s f = true) → (∀ j, f < j → j ≤ a → isB T s j = false) → floorB T s a = f
  | 0, h, _, _ => by simp only [floorB]; omega
  | a + 1, h, hf, hn => by
    simp only [floorB]
    by_cases he : f = a + 1
    · subst he
      rcases hf with hf | hf
      · omega
      · rw [hf, if_pos rfl]
    · rw [hn (a + 1) (by omega) (Nat.le_refl _), if_neg Bool.false_ne_true]
      exact floorB_eq (by omega) hf fun j h1 h2 => hn j h1 (by omega)
theorem floorB_le (T : Tab) (s : List Int) : ∀ a, floorB T s a ≤ a
  | 0 => Nat.le_refl _
  | a + 1 => by
    simp only [floorB]
    split
    · exact Nat.le_refl _
    · have := floorB_le T s a; omega
theorem floorB_is (T : Tab) (s : List Int) : ∀ a, floorB T s a = 0 ∨ isB T s (floorB T s a) = true
  | 0 => .inl rfl
  | a + 1 => by
    simp only [floorB]
    split
    · rename_i h; exact .inr h
    · exact floorB_is T s a
theorem floorB_none (T : Tab) (s : List Int) : ∀ a j, floorB T s a < j → j ≤ a → isB T s j = false
  | 0, j, h1, h2 => by omega
  | a + 1, j, h1, h2 => by
    simp only [floorB] at h1
    split at h1
    · omega
    · rename_i h
      by_cases hj : j = a + 1
      · subst hj; exact eq_false_of_ne_true h
      · exact floorB_none T s a j h1 (by omega)
theorem ceilB_spec (T : Tab) (s : List Int) {i : Nat} (h : i ≤ s.length) : (∀ j, i ≤ j → j < ceilB T s i → begAt T s j = false) ∧ ceilB T s i ≤ s.length ∧ (ceilB T s i = s.length ∨ begAt T s (ceilB T s i) = true) := fnb_spec T s _ i rfl h
theorem ceilB_eq {T : Tab} {s : List Int} {i c : Nat} (h : i ≤ s.length) (hic : i ≤ c) (hn : ∀ j, i ≤ j → j < c → begAt T s j = false) (hc : c ≤ s.length) (hb : c = s.length ∨ begAt T s c = true) : ceilB T s i = c := by
  obtain ⟨h1, h2, h3⟩ := ceilB_spec T s h
  have hge : i ≤ ceilB T s i := Nat.le_add_right _ _
  rcases Nat.lt_trichotomy (ceilB T s i) c with h4 | h4 | h4
  · rcases h3 with h3 | h3
    · omega
    · rw [hn _ hge h4] at h3; cases h3
  · exact h4
  · rcases hb with hb | hb
    · omega
    · rw [h1 c hic h4] at hb; cases hb
theorem ceilB_step {T : Tab} {s : List Int} {k : Nat} (hk : k < s.length) : ceilB T s k = if begAt T s k then k else ceilB T s (k + 1) := by
  have hx : s[k]? = some s[k] := List.getElem?_eq_getElem hk
  generalize s[k] = x at hx
  unfold ceilB begAt
  rw [drop_of_get hx, take_succ_rev hx, hx]
  simp only [fnb]
  split <;> omega
theorem ceilB_len (T : Tab) (s : List Int) : ceilB T s s.length = s.length := by unfold ceilB; rw [List.drop_length]; rfl
/-- from the last boundary not behind a place, that is ahead of it, the next one is the first not ahead of it -/
theorem ceil_of_floor {T : Tab} (H : T.Ok) {s : List Int} {a : Nat} (ha : a < s.length) (hf : floorB T s a < a) : ceilB T s a = floorB T s a + nx T (s.drop (floorB T s a)) := by
  have hb : begAt T s (floorB T s a) = true := by
    rcases floorB_is T s a with h | h
    · rw [h]; exact begAt_zero T (fun e => by rw [e] at ha; cases ha)
    · rwa [isB_lt (by omega)] at h
  obtain ⟨h1, h2, h3, h4⟩ := nx_spec H hb
  have h5 := floorB_none T s a
  refine ceilB_eq (Nat.le_of_lt ha) ?_ (fun j h6 h7 => h3 j (by omega) h7) h2 h4
  rcases Nat.lt_or_ge (floorB T s a + nx T (s.drop (floorB T s a))) a with h6 | h6
  · have h8 := h5 _ h1 (Nat.le_of_lt h6)
    rw [isB_lt (by omega)] at h8
    rcases h4 with h4 | h4
    · omega
    · rw [h8] at h4; cases h4
  · exact h6
theorem floorI_nonpos {T : Tab} {s : List Int} {a : Int} (h : a ≤ 0) : floorI T s a = 0 := by unfold floorI; rw [if_pos h]
theorem floorI_big {T : Tab} {s : List Int} {a : Int} (h : ¬ a ≤ 0) (h2 : (s.length : Int) ≤ a) : floorI T s a = s.length := by unfold floorI; rw [if_neg h, if_pos h2]
theorem floorI_mid {T : Tab} {s : List Int} {a : Nat} (h : 0 < a) (h2 : a < s.length) : floorI T s (a : Int) = floorB T s a := by unfold floorI; rw [if_neg (by omega), if_neg (by omega)]; rfl
theorem ceilI_nonpos {T : Tab} {s : List Int} {a : Int} (h : a ≤ 0) : ceilI T s a = 0 := by unfold ceilI; rw [if_pos h]
theorem ceilI_big {T : Tab} {s : List Int} {a : Int} (h : ¬ a ≤ 0) (h2 : (s.length : Int) ≤ a) : ceilI T s a = s.length := by unfold ceilI; rw [if_neg h, if_pos h2]
theorem ceilI_mid {T : Tab} {s : List Int} {a : Nat} (h : 0 < a) (h2 : a < s.length) : ceilI T s (a : Int) = ceilB T s a := by unfold ceilI; rw [if_neg (by omega), if_neg (by omega)]; rfl
theorem floorI_le (T : Tab) (s : List Int) (a : Int) : floorI T s a ≤ s.length := by
  unfold floorI
  split
  · exact Nat.zero_le _
  · split
    · exact Nat.le_refl _
    · have := floorB_le T s a.toNat; omega
theorem floorI_self {T : Tab} {s : List Int} {a : Int} : ¬ a ≤ 0 → a < s.length → (floorI T s a : Int) ≤ a := fun h1 h2 => by
  unfold floorI
  rw [if_neg h1, if_neg (by omega)]
  have := floorB_le T s a.toNat; omega
end Go.Proofs.YtkeainhjghdfcaaGreat

/- back: hangs, sure. -/
namespace Go.Proofs.YtkeainhjghdfcaaGreat
open Go.RowKit

section
variable {R : List Rw} {s : List Int} {w : World} {sv : Value} {tp : Nat}
end
end Go.Proofs.YtkeainhjghdfcaaGreat

/- back.sure. -/
namespace Go.Proofs.YtkeainhjghdfcaaGreat
open Go.RowKit

section
variable {R : List Rw} {s : List Int} {w : World} {sv : Value} {tp : Nat}
end
end Go.Proofs.YtkeainhjghdfcaaGreat

/- back: Floor, Ceil, Prev, Next; the document's floor, ceil. -/
namespace Go.Proofs.YtkeainhjghdfcaaGreat
open Go.RowKit

section
variable {R : List Rw} {s : List Int} {w : World} {v sv : Value} {tp : Nat}
set_option maxRecDepth 100000 in
set_option maxHeartbeats 4000000 in
theorem is_any (i : Nat) (hR : RowsIn w v R) (hs : RunesIn w sv s) (ok : RunesOk s) (hi : i ≤ s.length) (hl : s.length ≤ 1000000) :
    Calls Tryz.prog 34 #[v, sv, .int .i64 (i : Nat)] w fun e w' => e = .returned (.bool (isB (tabOf R) s i)) ∧ Below w.heap.size w w' := by
  have q0 : decide ((i : Int) < 0) = false := by rw [decide_eq_false_iff_not]; omega
  have q1 : decide ((i : Int) > (s.length : Int)) = false := by rw [decide_eq_false_iff_not]; omega
  have q1n : ¬ s.length < i := by omega
  have q1d : decide (s.length < i) = false := decide_eq_false q1n
  by_cases he : i = s.length
  · have HV := Lib.hid (show isB (tabOf R) s i = true by rw [he]; exact isB_len _ _)
    have q2 : ((i : Int) == (s.length : Int)) = true := by simp [he]
    obtain ⟨sl, cap, rfl, hcap, hmax, _⟩ := runes_cells hs
    unfold maxLen at hmax
    clear he hs hR ok
    go_enter Tryz.func34, Tryz.ntmps34
    go_wp2_with fail
    go_ret
    exact ⟨ret_b (by rw [HV.out]), .refl _ _⟩
  · have HCall := Lib.hid (begins_any i hR hs ok (by omega) hl)
    have HV := Lib.hid (show isB (tabOf R) s i = begAt (tabOf R) s i from isB_lt (by omega))
    have q2 : ((i : Int) == (s.length : Int)) = false := by simp; omega
    obtain ⟨sl, cap, rfl, hcap, hmax, _⟩ := runes_cells hs
    unfold maxLen at hmax
    clear hs hR ok
    go_enter Tryz.func34, Tryz.ntmps34
    go_wp2_with fail
    refine HCall.out.mono ?_
    rintro e w1 ⟨rfl, n1, rfl⟩
    go_wp2_with fail
    go_ret
    exact ⟨ret_b (by rw [HV.out]), below_dN (.refl _ _) n1⟩
end
end Go.Proofs.YtkeainhjghdfcaaGreat

/- back: Prev, Next; the document's floor, ceil; chapter 11's example. -/
namespace Go.Proofs.YtkeainhjghdfcaaGreat
open Go.RowKit

/-- the last boundary ahead of a place -/
def prevI (T : Tab) (s : List Int) (a : Int) : Nat := floorI T s (max (min a ((s.length : Int) + 1)) 0 - 1)
/-- the first one behind it -/
def nextI (T : Tab) (s : List Int) (a : Int) : Nat := if (s.length : Int) ≤ a then s.length else ceilI T s (max a (-1) + 1)
theorem floorI_clamp {T : Tab} {s : List Int} {a : Int} (h : (s.length : Int) ≤ a) (h0 : 0 < a) : floorI T s a = s.length := floorI_big (by omega) h
theorem floorI_all {T : Tab} {s : List Int} {a : Int} {n : Nat} (hn : n = if a ≤ 0 then 0 else if (s.length : Int) ≤ a then s.length else a.toNat) : floorI T s a = floorB T s n := by
  unfold floorI
  by_cases h : a ≤ 0
  · rw [if_pos h] at hn ⊢; rw [hn]; rfl
  · rw [if_neg h] at hn ⊢
    by_cases h2 : (s.length : Int) ≤ a
    · rw [if_pos h2] at hn ⊢
      rw [hn]
      exact (floorB_eq (Nat.le_refl _) (.inr (isB_len T s)) fun j h1 h2 => by omega).symm
    · rw [if_neg h2] at hn ⊢; rw [hn]
theorem ceilI_all {T : Tab} {s : List Int} {a : Int} {n : Nat} (hn : n = if a ≤ 0 then 0 else if (s.length : Int) ≤ a then s.length else a.toNat) : n ≤ s.length ∧ ceilI T s a = ceilB T s n := by
  unfold ceilI
  by_cases h : a ≤ 0
  · rw [if_pos h] at hn ⊢
    subst hn
    refine ⟨Nat.zero_le _, ?_⟩
    cases s with
    | nil => rfl
    | cons x l => rw [ceilB_step (by simp), begAt_zero T (by simp)]; rfl
  · rw [if_neg h] at hn ⊢
    by_cases h2 : (s.length : Int) ≤ a
    · rw [if_pos h2] at hn ⊢
      rw [hn]
      exact ⟨Nat.le_refl _, (ceilB_len T s).symm⟩
    · rw [if_neg h2] at hn ⊢; rw [hn]; exact ⟨by omega, rfl⟩
section
variable {R : List Rw} {s : List Int} {w : World} {v sv : Value} {tp : Nat}
end
end Go.Proofs.YtkeainhjghdfcaaGreat

/- From beginning to beginning, plainly. -/
namespace Go.Proofs.YtkeainhjghdfcaaGreat

theorem sorted_between {S : List Nat} (hs : S.Pairwise (· < ·)) {i q q' : Nat} (h : S[i]? = some q) (h' : S[i + 1]? = some q') : q < q' ∧ ∀ j ∈ S, ¬ (q < j ∧ j < q') := by
  rw [List.pairwise_iff_getElem] at hs
  obtain ⟨a1, a2⟩ := List.getElem?_eq_some_iff.1 h
  obtain ⟨b1, b2⟩ := List.getElem?_eq_some_iff.1 h'
  refine ⟨by have := hs i (i + 1) a1 b1 (by omega); omega, fun j hj hq => ?_⟩
  obtain ⟨k, hk⟩ := List.mem_iff_getElem?.1 hj
  obtain ⟨c1, c2⟩ := List.getElem?_eq_some_iff.1 hk
  rcases Nat.lt_trichotomy k i with h | h | h
  · have := hs k i c1 a1 h; omega
  · subst h; omega
  · rcases Nat.lt_trichotomy k (i + 1) with h2 | h2 | h2
    · omega
    · subst h2; omega
    · have := hs (i + 1) k b1 c1 h2; omega
theorem sorted_last {S : List Nat} (hs : S.Pairwise (· < ·)) {i q : Nat} (h : S[i]? = some q) (hl : i + 1 = S.length) : ∀ j ∈ S, j ≤ q := by
  rw [List.pairwise_iff_getElem] at hs
  obtain ⟨a1, a2⟩ := List.getElem?_eq_some_iff.1 h
  intro j hj
  obtain ⟨k, hk⟩ := List.mem_iff_getElem?.1 hj
  obtain ⟨c1, c2⟩ := List.getElem?_eq_some_iff.1 hk
  rcases Nat.lt_trichotomy k i with h | h | h
  · have := hs k i c1 a1 h; omega
  · subst h; omega
  · omega
section
variable {T : Tab} {s : List Int} {i q q' : Nat}
theorem begF {T : Tab} {s : List Int} {j : Nat} (h : j ∉ starts T s) : begAt T s j = false := by
  cases hb : begAt T s j with
  | false => rfl
  | true => exact absurd ((starts_mem T s j).2 hb) h
theorem next_start (h : (starts T s)[i]? = some q) (h' : (starts T s)[i + 1]? = some q') : nextI T s (q : Int) = q' := by
  obtain ⟨hlt, hno⟩ := sorted_between (starts_sorted T s) h h'
  have hb' := (starts_mem T s q').1 (List.mem_of_getElem? h')
  have hl' := begAt_lt hb'
  unfold nextI
  rw [if_neg (by omega), show max (q : Int) (-1) + 1 = ((q + 1 : Nat) : Int) by omega, ceilI_mid (by omega) (by omega)]
  exact ceilB_eq (by omega) (by omega) (fun j h1 h2 => begF fun hm => hno j hm ⟨by omega, h2⟩) (by omega) (.inr hb')
theorem next_last (h : (starts T s)[i]? = some q) (hl : i + 1 = (starts T s).length) : nextI T s (q : Int) = s.length := by
  have hmax := sorted_last (starts_sorted T s) h hl
  have hq := begAt_lt ((starts_mem T s q).1 (List.mem_of_getElem? h))
  unfold nextI
  rw [if_neg (by omega), show max (q : Int) (-1) + 1 = ((q + 1 : Nat) : Int) by omega]
  by_cases he : q + 1 = s.length
  · rw [ceilI_big (by omega) (by omega)]
  · rw [ceilI_mid (by omega) (by omega)]
    exact ceilB_eq (by omega) (by omega) (fun j h1 h2 => begF fun hm => by have := hmax j hm; omega) (Nat.le_refl _) (.inl rfl)
theorem prev_start (h : (starts T s)[i]? = some q) (h' : (starts T s)[i + 1]? = some q') : prevI T s (q' : Int) = q := by
  obtain ⟨hlt, hno⟩ := sorted_between (starts_sorted T s) h h'
  have hb := (starts_mem T s q).1 (List.mem_of_getElem? h)
  have hl' := begAt_lt ((starts_mem T s q').1 (List.mem_of_getElem? h'))
  unfold prevI
  rw [show max (min (q' : Int) ((s.length : Int) + 1)) 0 - 1 = ((q' - 1 : Nat) : Int) by omega]
  by_cases h0 : q' - 1 = 0
  · rw [floorI_nonpos (by omega)]; omega
  · rw [floorI_mid (by omega) (by omega)]
    exact floorB_eq (by omega) (.inr (by rw [isB_lt (by omega)]; exact hb)) fun j h1 h2 => by
      rw [isB_lt (by omega)]; exact begF fun hm => hno j hm ⟨h1, by omega⟩
theorem prev_last (h : (starts T s)[i]? = some q) (hl : i + 1 = (starts T s).length) : prevI T s (s.length : Int) = q := by
  have hmax := sorted_last (starts_sorted T s) h hl
  have hb := (starts_mem T s q).1 (List.mem_of_getElem? h)
  have hq := begAt_lt hb
  unfold prevI
  rw [show max (min (s.length : Int) ((s.length : Int) + 1)) 0 - 1 = ((s.length - 1 : Nat) : Int) by omega]
  by_cases h0 : s.length - 1 = 0
  · rw [floorI_nonpos (by omega)]; omega
  · rw [floorI_mid (by omega) (by omega)]
    exact floorB_eq (by omega) (.inr (by rw [isB_lt (by omega)]; exact hb)) fun j h1 h2 => by
      rw [isB_lt (by omega)]; exact begF fun hm => by have := hmax j hm; omega
theorem start_zero (h : (starts T s)[0]? = some q) : q = 0 := by
  cases s with
  | nil => simp [starts, startsB] at h
  | cons x l => simp [starts, startsB, begB] at h; exact h.symm
theorem starts_nil_iff : starts T s = [] ↔ s = [] := by
  cases s with
  | nil => simp [starts, startsB]
  | cons x l => simp [starts, startsB, begB]
end
end Go.Proofs.YtkeainhjghdfcaaGreat

/- slices.BinarySearch at whole numbers; an index's questions. -/
namespace Go.Proofs.YtkeainhjghdfcaaGreat
open Go.RowKit

theorem nan_any (x : Int) (w : World) : Calls Tryz.prog 155 #[.int .i64 x] w fun e w' => e = .returned (.bool false) ∧ w = w' := by
  go_enter Tryz.func155, Tryz.ntmps155
  go_wp2_with fail
  go_ret
  exact ⟨rfl, rfl⟩
theorem nan2_any (x : Int) (w : World) : Calls Tryz.prog 101 #[.int .i64 x] w fun e w' => e = .returned (.bool false) ∧ w = w' := by
  go_enter Tryz.func101, Tryz.ntmps101
  go_wp2_with fail
  go_ret
  exact ⟨rfl, rfl⟩
theorem less_any (x y : Int) (w : World) : Calls Tryz.prog 100 #[.int .i64 x, .int .i64 y] w fun e w' => e = .returned (.bool (decide (x < y))) ∧ w = w' := by
  go_enter Tryz.func100, Tryz.ntmps100
  go_wp2_with fail
  refine (nan_any x w).mono ?_
  rintro e w1 ⟨rfl, rfl⟩
  go_wp2_with fail
  go_ret
  exact ⟨rfl, rfl⟩
theorem ret_ib {i i' : Int} {b b' : Bool} (h1 : i = i') (h2 : b = b') : Ending.returned (.tuple #[.int .i64 i, .bool b]) = Ending.returned (.tuple #[.int .i64 i', .bool b']) := by rw [h1, h2]
/-- where the search for a number ends -/
structure FoundI (S : List Nat) (a : Int) (i : Nat) : Prop where
  le : i ≤ S.length
  lo : ∀ (j : Nat) (s : Nat), j < i → S[j]? = some s → (s : Int) < a
  hi : ∀ (j : Nat) (s : Nat), i ≤ j → S[j]? = some s → a ≤ (s : Int)
theorem found_lo {S : List Nat} {a : Int} (hS : S.Pairwise (· < ·)) {h x : Nat} (hx : S[h]? = some x) (ht : (x : Int) < a) : ∀ (q : Nat) (s : Nat), q < h + 1 → S[q]? = some s → (s : Int) < a := by
  intro q s hq hs
  rw [List.pairwise_iff_getElem] at hS
  obtain ⟨a1, a2⟩ := List.getElem?_eq_some_iff.1 hs
  obtain ⟨b1, b2⟩ := List.getElem?_eq_some_iff.1 hx
  rcases Nat.lt_or_ge q h with hl | hl
  · have := hS q h a1 b1 hl; omega
  · have : q = h := by omega
    subst this; omega
theorem found_hi {S : List Nat} {a : Int} (hS : S.Pairwise (· < ·)) {h x : Nat} (hx : S[h]? = some x) (ht : a ≤ (x : Int)) : ∀ (q : Nat) (s : Nat), h ≤ q → S[q]? = some s → a ≤ (s : Int) := by
  intro q s hq hs
  rw [List.pairwise_iff_getElem] at hS
  obtain ⟨a1, a2⟩ := List.getElem?_eq_some_iff.1 hs
  obtain ⟨b1, b2⟩ := List.getElem?_eq_some_iff.1 hx
  rcases Nat.lt_or_ge h q with hl | hl
  · have := hS h q b1 a1 hl; omega
  · have : q = h := by omega
    subst this; omega
/-- how many begin ahead of a place -/
def ahd (S : List Nat) (a : Int) : Nat := (S.takeWhile fun s : Nat => decide ((s : Int) < a)).length
/-- does one begin there? -/
def isAt (S : List Nat) (a : Int) : Bool := decide (S[ahd S a]?.map (fun s : Nat => (s : Int)) = some a)
theorem ahd_le (S : List Nat) (a : Int) : ahd S a ≤ S.length := by
  unfold ahd
  exact (List.takeWhile_prefix _).length_le
theorem ahd_eq {S : List Nat} {a : Int} : ∀ {i : Nat}, FoundI S a i → ahd S a = i := by
  induction S with
  | nil => intro i h; have := h.le; simp at this; subst this; unfold ahd; rfl
  | cons x S ih =>
    intro i h
    by_cases hx : (x : Int) < a
    · cases i with
      | zero => have := h.hi 0 x (Nat.le_refl _) rfl; omega
      | succ i =>
        have := ih (i := i) ⟨by have := h.le; simp at this; omega, fun j s hj hs => h.lo (j + 1) s (by omega) (by simpa using hs), fun j s hj hs => h.hi (j + 1) s (by omega) (by simpa using hs)⟩
        unfold ahd at this ⊢
        rw [List.takeWhile_cons, if_pos (by simpa using hx), List.length_cons, this]
    · cases i with
      | zero => unfold ahd; rw [List.takeWhile_cons, if_neg (by simpa using hx)]; rfl
      | succ i => exact absurd (h.lo 0 x (by omega) rfl) hx
set_option maxRecDepth 100000 in
set_option maxHeartbeats 4000000 in
theorem bsi_any (v : Value) (S : List Nat) (a : Int) (w : World) (hI : IntsIn w v S) (hS : S.Pairwise (· < ·)) (hl : S.length ≤ 1000000) :
    Calls Tryz.prog 60 #[v, .int .i64 a] w fun e w' => e = .returned (.tuple #[.int .i64 ((ahd S a : Nat) : Int), .bool (isAt S a)]) ∧ Below w.heap.size w w' ∧ FoundI S a (ahd S a) := by
  have HI := Lib.hid hI
  obtain ⟨sa, sc, rfl, hcap, hmax, _⟩ := ints_cells hI
  unfold maxLen at hmax
  have HS := Lib.hid hS
  clear hS hI
  go_enter Tryz.func60, Tryz.ntmps60
  go_wp2_with fail
  go_loopw [7, 8] (fun iv jv wr => ∃ i j : Nat, iv = .int .i64 ((i : Nat) : Int) ∧ jv = .int .i64 ((j : Nat) : Int) ∧ i ≤ j ∧ j ≤ S.length ∧ Below w.heap.size w wr ∧ (∀ (q : Nat) (s : Nat), q < i → S[q]? = some s → (s : Int) < a) ∧ (∀ (q : Nat) (s : Nat), j ≤ q → S[q]? = some s → a ≤ (s : Int))) (fun iv jv _ => (intOf jv).toNat - (intOf iv).toNat)
  case atStart => exact ⟨0, S.length, rfl, rfl, Nat.zero_le _, Nat.le_refl _, .refl _ _, fun q s h => by omega, fun q s h h2 => by have := (List.getElem?_eq_some_iff.1 h2).1; omega⟩
  case round =>
    obtain ⟨i, j, rfl, rfl, hij, hjl, hB, hlo, hhi⟩ := hrel
    have HB := Lib.hid hB
    have HLo := Lib.hid hlo
    have HHi := Lib.hid hhi
    clear hlo hhi
    by_cases hlt : i < j
    · obtain ⟨h, hh⟩ : ∃ h : Nat, h = (i + j) / 2 := ⟨_, rfl⟩
      have hhl : h < S.length := by omega
      have hih : i ≤ h := by omega
      have hhj : h < j := by omega
      obtain ⟨x, hx⟩ : ∃ x, S[h]? = some x := ⟨S[h], List.getElem?_eq_getElem hhl⟩
      obtain ⟨b, off, cap', hv, _, _, _, _, d0⟩ := int_cell (HI.out.below hB) hx
      cases hv
      have HX := Lib.hid hx
      clear hB hx
      have s1 : (((i : Nat) : Int) + ((j : Nat) : Int)) / 2 = ((h : Nat) : Int) := by omega
      clear hh
      have e1 := IntWalk.i64_in (((i : Nat) : Int) + ((j : Nat) : Int)) (by omega)
      have p0 : ((i : Nat) : Int) < ((j : Nat) : Int) := by omega
      have p1 : (0 : Int) ≤ (h : Int) := by omega
      have p2 : (h : Int) < (S.length : Int) := by omega
      by_cases h1 : (x : Int) < a
      · have H1 := Lib.hid h1
        go_wp2_with fail
        refine (less_any _ _ _).mono ?_
        rintro e w1 ⟨rfl, rfl⟩
        go_wp2_with fail
        go_roundw
        case rel => exact ⟨h + 1, j, by go_num, rfl, by omega, by omega, HB.out, found_lo HS.out HX.out H1.out, HHi.out⟩
        case measure => simp [intOf]; omega
      · have q1 : decide ((x : Int) < a) = false := decide_eq_false h1
        have H1 := Lib.hid (show a ≤ (x : Int) by omega)
        clear h1
        go_wp2_with fail
        refine (less_any _ _ _).mono ?_
        rintro e w1 ⟨rfl, rfl⟩
        go_wp2_with fail
        go_roundw
        case rel => exact ⟨i, h, rfl, rfl, by omega, by omega, HB.out, HLo.out, found_hi HS.out HX.out H1.out⟩
        case measure => simp [intOf]; omega
    · have hie : i = j := by omega
      subst hie
      have HA := Lib.hid (ahd_eq (S := S) (a := a) (i := i) ⟨hjl, HLo.out, HHi.out⟩)
      have HF := Lib.hid (show FoundI S a (ahd S a) by rw [HA.out]; exact ⟨hjl, HLo.out, HHi.out⟩)
      clear hlt hij
      by_cases hin : i < S.length
      · obtain ⟨x, hx⟩ : ∃ x, S[i]? = some x := ⟨S[i], List.getElem?_eq_getElem hin⟩
        obtain ⟨b, off, cap', hv, _, _, _, _, d0⟩ := int_cell (HI.out.below hB) hx
        cases hv
        have p1 : (0 : Int) ≤ (i : Int) := by omega
        have p2 : (i : Int) < (S.length : Int) := by omega
        by_cases hf : (x : Int) = a
        · have q2 : ((x : Int) == a) = true := by simpa using hf
          have HE := Lib.hid (show isAt S a = true by unfold isAt; rw [HA.out, hx]; simp [hf])
          clear hf hB hx
          go_wp2_with fail
          go_ret2
          exact ⟨ret_ib (by rw [HA.out]) HE.out.symm, HB.out, HF.out⟩
        · have q2 : ((x : Int) == a) = false := by simpa using hf
          have HE := Lib.hid (show isAt S a = false by unfold isAt; rw [HA.out, hx]; simp [hf])
          clear hf hB hx
          go_wp2_with fail
          refine (nan2_any _ _).mono ?_
          rintro e w1 ⟨rfl, rfl⟩
          go_wp2_with fail
          go_ret2
          exact ⟨ret_ib (by rw [HA.out]) HE.out.symm, HB.out, HF.out⟩
      · have hil : i = S.length := by omega
        have HE := Lib.hid (show isAt S a = false by unfold isAt; rw [HA.out, List.getElem?_eq_none (by omega)]; rfl)
        subst hil
        clear hB hin
        go_wp2_with fail
        go_ret2
        exact ⟨ret_ib (by rw [HA.out]) HE.out.symm, HB.out, HF.out⟩
end Go.Proofs.YtkeainhjghdfcaaGreat

/- Words, plainly. -/
namespace Go.Proofs.YtkeainhjghdfcaaGreat

/-- is the scalar at a place a letter? -/
def insR (R : List Rw) (s : List Int) (i : Nat) : Bool := match s[i]? with
  | some x => decide (ofA R 8 x = 1)
  | none => false
theorem insR_some {R : List Rw} {s : List Int} {i : Nat} {x : Int} (h : s[i]? = some x) : insR R s i = decide (ofA R 8 x = 1) := by unfold insR; rw [h]
theorem insR_big {R : List Rw} {s : List Int} {i : Nat} (h : s.length ≤ i) : insR R s i = false := by unfold insR; rw [List.getElem?_eq_none h]
theorem insR_lt {R : List Rw} {s : List Int} {i : Nat} (h : insR R s i = true) : i < s.length := by
  by_cases hi : i < s.length
  · exact hi
  · rw [insR_big (by omega)] at h; cases h
def nxt (T : Tab) (s : List Int) (b : Nat) : Nat := b + nx T (s.drop b)
theorem nxt_gt (T : Tab) {s : List Int} {b : Nat} (h : b < s.length) : b < nxt T s b := by
  have := nx_pos T (s := s.drop b) (fun e => by have := congrArg List.length e; rw [List.length_drop] at this; simp at this; omega)
  unfold nxt; omega
theorem nxt_le (T : Tab) {s : List Int} {b : Nat} (h : b ≤ s.length) : nxt T s b ≤ s.length := by
  have := nx_le T (s.drop b); rw [List.length_drop] at this
  unfold nxt; omega

section
variable (n : Nat) (nt : Nat → Nat) (ins : Nat → Bool)
/-- where a run of parts of words ends -/
def runE (b : Nat) : Nat := if _h : b < n ∧ b < nt b ∧ ins b = true then runE (nt b) else b
termination_by n - b
decreasing_by omega
/-- where the next part of a word is -/
def skp (b : Nat) : Nat := if _h : b < n ∧ b < nt b ∧ ins b = false then skp (nt b) else b
termination_by n - b
decreasing_by omega
/-- the words from a place on -/
def wrds (b : Nat) : List (Nat × Nat) := if _h : b < n ∧ b < runE n nt ins b then (b, runE n nt ins b) :: wrds (runE n nt ins b) else if _h2 : b < n ∧ b < nt b then wrds (nt b) else []
termination_by n - b
decreasing_by all_goals omega
def upd (out : List (Nat × Nat)) (a e : Nat) : List (Nat × Nat) := match out.getLast? with
  | some y => if y.2 = a then out.dropLast ++ [(y.1, e)] else out ++ [(a, e)]
  | none => out ++ [(a, e)]
/-- the words, cluster by cluster -/
def refW (out : List (Nat × Nat)) (b : Nat) : List (Nat × Nat) := if _h : b < n ∧ b < nt b then (if ins b = true then refW (upd out b (nt b)) (nt b) else refW out (nt b)) else out
termination_by n - b
decreasing_by all_goals omega
end
section
variable {n : Nat} {nt : Nat → Nat} {ins : Nat → Bool} {b : Nat}
theorem runE_step (h1 : b < n) (h2 : b < nt b) (h3 : ins b = true) : runE n nt ins b = runE n nt ins (nt b) := by rw [runE, dif_pos ⟨h1, h2, h3⟩]
theorem runE_stop (h : ins b = false) : runE n nt ins b = b := by rw [runE, dif_neg (fun e => by rw [h] at e; cases e.2.2)]
theorem runE_end (h : ¬ b < n) : runE n nt ins b = b := by rw [runE, dif_neg (fun e => h e.1)]
theorem skp_step (h1 : b < n) (h2 : b < nt b) (h3 : ins b = false) : skp n nt ins b = skp n nt ins (nt b) := by rw [skp, dif_pos ⟨h1, h2, h3⟩]
theorem skp_stop (h : ins b = true) : skp n nt ins b = b := by rw [skp, dif_neg (fun e => by rw [h] at e; cases e.2.2)]
theorem skp_end (h : ¬ b < n) : skp n nt ins b = b := by rw [skp, dif_neg (fun e => h e.1)]
theorem runE_ge : ∀ m, ∀ b, n - b = m → b ≤ runE n nt ins b := by
  intro m
  induction m using Nat.strongRecOn with
  | _ m ih =>
    intro b hm
    rw [runE]
    split
    · rename_i h
      have := ih (n - nt b) (by omega) (nt b) rfl
      omega
    · exact Nat.le_refl _
theorem runE_gt (h1 : b < n) (h2 : b < nt b) (h3 : ins b = true) : b < runE n nt ins b := by
  rw [runE_step h1 h2 h3]
  have := runE_ge (n := n) (nt := nt) (ins := ins) _ (nt b) rfl
  omega
theorem wrds_in (h1 : b < n) (h2 : b < nt b) (h3 : ins b = true) : wrds n nt ins b = (b, runE n nt ins b) :: wrds n nt ins (runE n nt ins b) := by
  rw [wrds, dif_pos ⟨h1, runE_gt h1 h2 h3⟩]
theorem wrds_out (h1 : b < n) (h2 : b < nt b) (h3 : ins b = false) : wrds n nt ins b = wrds n nt ins (nt b) := by
  rw [wrds, dif_neg (fun e => by rw [runE_stop h3] at e; omega), dif_pos ⟨h1, h2⟩]
theorem wrds_end (h : ¬ b < n) : wrds n nt ins b = [] := by
  rw [wrds, dif_neg (fun e => h e.1), dif_neg (fun e => h e.1)]
theorem upd_nil (a e : Nat) : upd [] a e = [(a, e)] := rfl
theorem upd_same (o : List (Nat × Nat)) (f a e : Nat) : upd (o ++ [(f, a)]) a e = o ++ [(f, e)] := by
  unfold upd; rw [List.getLast?_concat, List.dropLast_concat]; simp
theorem upd_other (o : List (Nat × Nat)) (f a' a e : Nat) (h : a' ≠ a) : upd (o ++ [(f, a')]) a e = (o ++ [(f, a')]) ++ [(a, e)] := by
  unfold upd; rw [List.getLast?_concat]; simp [h]
theorem refW_in {out : List (Nat × Nat)} (h1 : b < n) (h2 : b < nt b) (h3 : ins b = true) : refW n nt ins out b = refW n nt ins (upd out b (nt b)) (nt b) := by
  rw [refW, dif_pos ⟨h1, h2⟩, if_pos h3]
theorem refW_out {out : List (Nat × Nat)} (h1 : b < n) (h2 : b < nt b) (h3 : ins b = false) : refW n nt ins out b = refW n nt ins out (nt b) := by
  rw [refW, dif_pos ⟨h1, h2⟩, if_neg (by rw [h3]; decide)]
theorem refW_end {out : List (Nat × Nat)} (h : ¬ b < n) : refW n nt ins out b = out := by
  rw [refW, dif_neg (fun e => h e.1)]
/-- no word is open at a place -/
def Shut (out : List (Nat × Nat)) (b : Nat) : Prop := out = [] ∨ ∃ o f a, out = o ++ [(f, a)] ∧ a < b
theorem Shut.later {out : List (Nat × Nat)} {b c : Nat} (h : Shut out b) (hc : b ≤ c) : Shut out c := by
  rcases h with h | ⟨o, f, a, h, ha⟩
  · exact .inl h
  · exact .inr ⟨o, f, a, h, by omega⟩
theorem Shut.upd {out : List (Nat × Nat)} {b : Nat} (h : Shut out b) (e : Nat) : upd out b e = out ++ [(b, e)] := by
  rcases h with rfl | ⟨o, f, a, rfl, ha⟩
  · rfl
  · exact upd_other o f a b e (by omega)
theorem refW_wrds (hn : ∀ b, b < n → b < nt b) : ∀ m b, n - b = m → (∀ out, Shut out b → refW n nt ins out b = out ++ wrds n nt ins b) ∧ (∀ o f, refW n nt ins (o ++ [(f, b)]) b = o ++ (f, runE n nt ins b) :: wrds n nt ins (runE n nt ins b)) := by
  intro m
  induction m using Nat.strongRecOn with
  | _ m ih =>
    intro b hm
    by_cases hb : b < n
    · have h2 := hn b hb
      obtain ⟨iA, iB⟩ := ih (n - nt b) (by omega) (nt b) rfl
      cases hi : ins b with
      | true =>
        refine ⟨fun out hs => ?_, fun o f => ?_⟩
        · rw [refW_in hb h2 hi, hs.upd, iB, wrds_in hb h2 hi, runE_step hb h2 hi]
        · rw [refW_in hb h2 hi, upd_same, iB, runE_step hb h2 hi]
      | false =>
        refine ⟨fun out hs => ?_, fun o f => ?_⟩
        · rw [refW_out hb h2 hi, iA _ (hs.later (by omega)), wrds_out hb h2 hi]
        · rw [refW_out hb h2 hi, iA _ (.inr ⟨o, f, b, rfl, h2⟩), runE_stop hi, wrds_out hb h2 hi, List.append_assoc]; rfl
    · refine ⟨fun out hs => ?_, fun o f => ?_⟩
      · rw [refW_end hb, wrds_end hb, List.append_nil]
      · rw [refW_end hb, runE_end hb, wrds_end hb]
theorem words_same (hn : ∀ b, b < n → b < nt b) : refW n nt ins [] 0 = wrds n nt ins 0 := (refW_wrds hn _ 0 rfl).1 [] (.inl rfl)
end
/-- the last word's beginning, going back -/
def bck (prv : Nat → Nat) (ins : Nat → Bool) (b : Nat) (wi : Bool) : Nat := if _h : 0 < b ∧ prv b < b then (if (wi && !ins (prv b)) = true then b else bck prv ins (prv b) (wi || ins (prv b))) else b
termination_by b
decreasing_by omega
theorem bck_stop {prv : Nat → Nat} {ins : Nat → Bool} {b : Nat} (h : 0 < b) (h2 : prv b < b) (h3 : ins (prv b) = false) : bck prv ins b true = b := by
  rw [bck, dif_pos ⟨h, h2⟩, h3]; rfl
theorem bck_in {prv : Nat → Nat} {ins : Nat → Bool} {b : Nat} {wi : Bool} (h : 0 < b) (h2 : prv b < b) (h3 : ins (prv b) = true) : bck prv ins b wi = bck prv ins (prv b) true := by
  rw [bck, dif_pos ⟨h, h2⟩, h3]; simp
theorem bck_out {prv : Nat → Nat} {ins : Nat → Bool} {b : Nat} (h : 0 < b) (h2 : prv b < b) (h3 : ins (prv b) = false) : bck prv ins b false = bck prv ins (prv b) false := by
  rw [bck, dif_pos ⟨h, h2⟩, h3]; simp
theorem bck_zero {prv : Nat → Nat} {ins : Nat → Bool} {wi : Bool} : bck prv ins 0 wi = 0 := by
  rw [bck, dif_neg (by omega)]
def prv (T : Tab) (s : List Int) (b : Nat) : Nat := prevI T s (b : Int)
theorem prv_lt (T : Tab) {s : List Int} {b : Nat} (h : 0 < b) (hb : b ≤ s.length) : prv T s b < b := by
  unfold prv prevI
  rw [show max (min (b : Int) ((s.length : Int) + 1)) 0 - 1 = ((b - 1 : Nat) : Int) by omega]
  by_cases h0 : b - 1 = 0
  · rw [floorI_nonpos (by omega)]; omega
  · rw [floorI_mid (by omega) (by omega)]
    have := floorB_le T s (b - 1)
    omega
theorem ceilI_le (T : Tab) (s : List Int) (a : Int) : ceilI T s a ≤ s.length := by
  by_cases h : a ≤ 0
  · rw [ceilI_nonpos h]; exact Nat.zero_le _
  · by_cases h2 : (s.length : Int) ≤ a
    · rw [ceilI_big h h2]; exact Nat.le_refl _
    · obtain ⟨i, rfl⟩ : ∃ i : Nat, a = (i : Int) := ⟨a.toNat, by omega⟩
      rw [ceilI_mid (by omega) (by omega)]
      exact (ceilB_spec T s (by omega)).2.1
theorem ceilI_beg {T : Tab} {s : List Int} {b : Nat} (h : begAt T s b = true) : ceilI T s (b : Int) = b := by
  have hl := begAt_lt h
  by_cases h0 : b = 0
  · subst h0; exact ceilI_nonpos (Int.le_refl _)
  · rw [ceilI_mid (by omega) hl]
    exact ceilB_eq (by omega) (Nat.le_refl _) (fun j h1 h2 => by omega) (by omega) (.inr h)
/-- where the next word ends -/
def fwdI (R : List Rw) (s : List Int) (a : Int) : Nat := runE s.length (nxt (tabOf R) s) (insR R s) (skp s.length (nxt (tabOf R) s) (insR R s) (ceilI (tabOf R) s a))
/-- where the last word begins -/
def bckI (R : List Rw) (s : List Int) (a : Int) : Nat := bck (prv (tabOf R) s) (insR R s) (floorI (tabOf R) s a) false
def wrdsR (R : List Rw) (s : List Int) : List (Nat × Nat) := wrds s.length (nxt (tabOf R) s) (insR R s) 0
end Go.Proofs.YtkeainhjghdfcaaGreat

/- Chapter 11's example; BackPrev: its walk. -/
namespace Go.Proofs.YtkeainhjghdfcaaGreat
open Go.RowKit

/-- chapter 11's text: where its clusters begin -/
theorem ex11_beg {R : List Rw} (HF : RFacts R) (j : Nat) : begAt (tabOf R) [97, 127462, 127463, 127464] j = true ↔ j = 0 ∨ j = 1 ∨ j = 3 := by
  rw [← starts_mem, HF.seg.ex5]; simp
theorem ex11_begF {R : List Rw} (HF : RFacts R) (j : Nat) (h : ¬ (j = 0 ∨ j = 1 ∨ j = 3)) : begAt (tabOf R) [97, 127462, 127463, 127464] j = false := by
  cases hb : begAt (tabOf R) [97, 127462, 127463, 127464] j with
  | false => rfl
  | true => exact absurd ((ex11_beg HF j).1 hb) h
theorem ex11_floor {R : List Rw} (HF : RFacts R) : floorI (tabOf R) [97, 127462, 127463, 127464] 2 = 1 := by
  rw [show (2 : Int) = ((2 : Nat) : Int) from rfl, floorI_mid (by decide) (by decide)]
  refine floorB_eq (by decide) (.inr (by rw [isB_lt (by decide)]; exact (ex11_beg HF 1).2 (by simp))) fun j h1 h2 => ?_
  have : j = 2 := by omega
  subst this
  rw [isB_lt (by decide)]
  exact ex11_begF HF 2 (by omega)
theorem ex11_prev {R : List Rw} (HF : RFacts R) : prevI (tabOf R) [97, 127462, 127463, 127464] 3 = 1 := ex11_floor HF
theorem ex11_ceil {R : List Rw} (HF : RFacts R) : ceilI (tabOf R) [97, 127462, 127463, 127464] 2 = 3 := by
  rw [show (2 : Int) = ((2 : Nat) : Int) from rfl, ceilI_mid (by decide) (by decide)]
  refine ceilB_eq (by decide) (by decide) (fun j h1 h2 => ?_) (by decide) (.inr ((ex11_beg HF 3).2 (by simp)))
  have : j = 2 := by omega
  subst this
  exact ex11_begF HF 2 (by omega)
theorem ex11_next {R : List Rw} (HF : RFacts R) : nextI (tabOf R) [97, 127462, 127463, 127464] 0 = 1 := by
  show ceilI (tabOf R) [97, 127462, 127463, 127464] ((1 : Nat) : Int) = 1
  rw [ceilI_mid (by decide) (by decide)]
  exact ceilB_eq (by decide) (by decide) (fun j h1 h2 => by omega) (by decide) (.inr ((ex11_beg HF 1).2 (by simp)))
theorem prevI_cases (T : Tab) (s : List Int) (a : Int) : (prevI T s a : Int) = if a > 0 then (if a > (s.length : Int) then (s.length : Int) else (floorI T s (a - 1) : Int)) else 0 := by
  unfold prevI
  by_cases h : a > 0
  · rw [if_pos h]
    by_cases h2 : a > (s.length : Int)
    · rw [if_pos h2]
      by_cases h3 : s.length = 0
      · have hle := floorI_le T s (max (min a ((s.length : Int) + 1)) 0 - 1)
        omega
      · rw [floorI_big (by omega) (by omega)]
    · rw [if_neg h2]
      have : max (min a ((s.length : Int) + 1)) 0 - 1 = a - 1 := by omega
      rw [this]
  · rw [if_neg h, floorI_nonpos (by omega)]; rfl
theorem nextI_cases (T : Tab) (s : List Int) (a : Int) : (nextI T s a : Int) = if a < (s.length : Int) then (if a ≥ 0 then (ceilI T s (a + 1) : Int) else (ceilI T s 0 : Int)) else (s.length : Int) := by
  unfold nextI
  by_cases h : a < (s.length : Int)
  · rw [if_pos h, if_neg (by omega)]
    by_cases h2 : a ≥ 0
    · rw [if_pos h2]
      have : max a (-1) + 1 = a + 1 := by omega
      rw [this]
    · rw [if_neg h2, ceilI_nonpos (by omega), ceilI_nonpos (Int.le_refl _)]
  · rw [if_neg h, if_pos (by omega)]
end Go.Proofs.YtkeainhjghdfcaaGreat

/- BackFloors: its walk. -/
namespace Go.Proofs.YtkeainhjghdfcaaGreat
open Go.RowKit

/-- is a place a boundary? -/
def isI (T : Tab) (s : List Int) (a : Int) : Bool := decide (0 ≤ a) && (decide (a ≤ (s.length : Int)) && isB T s a.toNat)
section
variable {R : List Rw} {s : List Int} {w : World} {v sv : Value} {tp : Nat}
set_option maxRecDepth 100000 in
set_option maxHeartbeats 4000000 in
theorem isI_any (a : Int) (hR : RowsIn w v R) (hs : RunesIn w sv s) (ok : RunesOk s) (hl : s.length ≤ 1000000) :
    Calls Tryz.prog 34 #[v, sv, .int .i64 a] w fun e w' => e = .returned (.bool (isI (tabOf R) s a)) ∧ Below w.heap.size w w' := by
  by_cases h0 : 0 ≤ a
  · by_cases h1 : a ≤ (s.length : Int)
    · obtain ⟨i, rfl⟩ : ∃ i : Nat, a = (i : Int) := ⟨a.toNat, by omega⟩
      have := is_any i hR hs ok (by omega) hl
      unfold isI
      rw [decide_eq_true h0, decide_eq_true h1, Bool.true_and, Bool.true_and]
      exact this
    · have HV := Lib.hid (show isI (tabOf R) s a = false by unfold isI; rw [decide_eq_false h1]; simp)
      have q0 : decide (a < 0) = false := by rw [decide_eq_false_iff_not]; omega
      have q1 : a > (s.length : Int) := by omega
      obtain ⟨sl, cap, rfl, hcap, hmax, _⟩ := runes_cells hs
      unfold maxLen at hmax
      clear hs ok h1
      go_enter Tryz.func34, Tryz.ntmps34
      go_wp2_with fail
      go_ret
      exact ⟨ret_b (by rw [HV.out]), .refl _ _⟩
  · have HV := Lib.hid (show isI (tabOf R) s a = false by unfold isI; rw [decide_eq_false h0]; rfl)
    have q0 : a < 0 := by omega
    obtain ⟨sl, cap, rfl, hcap, hmax, _⟩ := runes_cells hs
    unfold maxLen at hmax
    clear hs ok h0
    go_enter Tryz.func34, Tryz.ntmps34
    go_wp2_with fail
    go_ret
    exact ⟨ret_b (by rw [HV.out]), .refl _ _⟩
end
end Go.Proofs.YtkeainhjghdfcaaGreat

/- Words: what going from word to word says of the list, plainly. -/
namespace Go.Proofs.YtkeainhjghdfcaaGreat

/-- z is the first end behind c; n, if there is none -/
def IsFirst (L : List (Nat × Nat)) (n c z : Nat) : Prop := (z = n ∧ ∀ x ∈ L, ¬ c < x.2) ∨ ((∃ x ∈ L, x.2 = z) ∧ c < z ∧ ∀ x ∈ L, c < x.2 → z ≤ x.2)
/-- z is the last beginning ahead of c; 0, if there is none -/
def IsLast (L : List (Nat × Nat)) (c z : Nat) : Prop := (z = 0 ∧ ∀ x ∈ L, ¬ x.1 < c) ∨ ((∃ x ∈ L, x.1 = z) ∧ z < c ∧ ∀ x ∈ L, x.1 < c → x.1 ≤ z)
theorem runE_bd2 {n : Nat} {nt : Nat → Nat} {ins : Nat → Bool} {P : Nat → Prop} (hP : ∀ b, b < n → P b → P (nt b)) : ∀ m b, n - b = m → P b → P (runE n nt ins b) := by
  intro m
  induction m using Nat.strongRecOn with
  | _ m ih =>
    intro b hm hb
    rw [runE]
    split
    · rename_i h
      exact ih (n - nt b) (by omega) (nt b) rfl (hP b h.1 hb)
    · exact hb
theorem runE_bd' {n : Nat} {nt : Nat → Nat} {ins : Nat → Bool} (hN : ∀ b, b < n → nt b ≤ n) (m b : Nat) (hm : n - b = m) (hb : b ≤ n) : runE n nt ins b ≤ n := runE_bd2 (P := fun b => b ≤ n) (fun b h _ => hN b h) m b hm hb
section
variable {n : Nat} {nt pv : Nat → Nat} {ins : Nat → Bool} {B : Nat → Prop}
theorem wrds_ends (hn : ∀ b, b < n → b < nt b) (hN : ∀ b, b < n → nt b ≤ n) : ∀ m b, n - b = m → b ≤ n → (∀ x ∈ wrds n nt ins b, b ≤ x.1 ∧ x.1 < x.2 ∧ x.2 ≤ n) ∧ (wrds n nt ins b).Pairwise (fun x y => x.2 ≤ y.1) := by
  intro m
  induction m using Nat.strongRecOn with
  | _ m ih =>
    intro b hm hb
    by_cases hlt : b < n
    · have h2 := hn b hlt
      cases hi : ins b with
      | true =>
        have hg := runE_gt hlt h2 hi
        have hr : runE n nt ins b ≤ n := runE_bd' hN _ b rfl hb
        obtain ⟨i1, i2⟩ := ih (n - runE n nt ins b) (by omega) (runE n nt ins b) rfl hr
        rw [wrds_in hlt h2 hi]
        refine ⟨fun x hx => ?_, List.pairwise_cons.2 ⟨fun y hy => (i1 y hy).1, i2⟩⟩
        rcases List.mem_cons.1 hx with rfl | hx
        · exact ⟨Nat.le_refl _, hg, hr⟩
        · have := i1 x hx; omega
      | false =>
        obtain ⟨i1, i2⟩ := ih (n - nt b) (by omega) (nt b) rfl (hN b hlt)
        rw [wrds_out hlt h2 hi]
        exact ⟨fun x hx => by have := i1 x hx; omega, i2⟩
    · rw [wrds_end hlt]
      exact ⟨fun x hx => by simp at hx, .nil⟩
theorem run_mid (hn : ∀ b, b < n → b < nt b) (hB : ∀ b, b < n → B b → B (nt b)) (hg : ∀ b c, b < n → B b → B c → b < c → nt b ≤ c) : ∀ m b c, n - b = m → B b → B c → b ≤ c → c < runE n nt ins b → ins c = true ∧ runE n nt ins c = runE n nt ins b := by
  intro m
  induction m using Nat.strongRecOn with
  | _ m ih =>
    intro b c hm hb hc hbc hcr
    have hlt : b < n := by
      by_cases h : b < n
      · exact h
      · rw [runE_end h] at hcr; omega
    have hi : ins b = true := by
      cases h : ins b with
      | true => rfl
      | false => rw [runE_stop h] at hcr; omega
    by_cases e : b = c
    · subst e; exact ⟨hi, rfl⟩
    · have h2 := hn b hlt
      have h3 := hg b c hlt hb hc (by omega)
      rw [runE_step hlt h2 hi] at hcr ⊢
      exact ih (n - nt b) (by omega) (nt b) c rfl (hB b hlt hb) hc h3 hcr
theorem run_out (hn : ∀ b, b < n → b < nt b) : ∀ m b, n - b = m → ins (runE n nt ins b) = false ∨ ¬ runE n nt ins b < n := by
  intro m
  induction m using Nat.strongRecOn with
  | _ m ih =>
    intro b hm
    by_cases hlt : b < n
    · cases hi : ins b with
      | true => rw [runE_step hlt (hn b hlt) hi]; exact ih (n - nt b) (by have := hn b hlt; omega) (nt b) rfl
      | false => rw [runE_stop hi]; exact .inl hi
    · rw [runE_end hlt]; exact .inr hlt
theorem fwd_first (hn : ∀ b, b < n → b < nt b) (hN : ∀ b, b < n → nt b ≤ n) (hB : ∀ b, b < n → B b → B (nt b)) (hg : ∀ b c, b < n → B b → B c → b < c → nt b ≤ c) : ∀ m b c, n - b = m → B b → B c → b ≤ c → c ≤ n → IsFirst (wrds n nt ins b) n c (runE n nt ins (skp n nt ins c)) := by
  intro m
  induction m using Nat.strongRecOn with
  | _ m ih =>
    intro b c hm hb hc hbc hcn
    by_cases hlt : b < n
    · have h2 := hn b hlt
      cases hi : ins b with
      | true =>
        have hgt := runE_gt hlt h2 hi
        have hrn : runE n nt ins b ≤ n := runE_bd' hN _ b rfl (by omega)
        have hBr : B (runE n nt ins b) := runE_bd2 hB _ b rfl hb
        rw [wrds_in hlt h2 hi]
        by_cases hcr : c < runE n nt ins b
        · obtain ⟨c1, c2⟩ := run_mid hn hB hg _ b c rfl hb hc hbc hcr
          rw [skp_stop c1, c2]
          refine .inr ⟨⟨_, List.mem_cons_self, rfl⟩, hcr, fun x hx _ => ?_⟩
          rcases List.mem_cons.1 hx with rfl | hx
          · exact Nat.le_refl _
          · have := (wrds_ends hn hN _ _ rfl hrn).1 x hx; omega
        · rcases ih (n - runE n nt ins b) (by omega) (runE n nt ins b) c rfl hBr hc (by omega) hcn with ⟨h, k⟩ | ⟨⟨y, hy, hz⟩, h, k⟩
          · refine .inl ⟨h, fun x hx => ?_⟩
            rcases List.mem_cons.1 hx with rfl | hx
            · exact hcr
            · exact k x hx
          · refine .inr ⟨⟨y, List.mem_cons_of_mem _ hy, hz⟩, h, fun x hx hcx => ?_⟩
            rcases List.mem_cons.1 hx with rfl | hx
            · exact absurd hcx hcr
            · exact k x hx hcx
      | false =>
        rw [wrds_out hlt h2 hi]
        by_cases e : b = c
        · subst e
          have hE := (wrds_ends (ins := ins) hn hN _ (nt b) rfl (hN b hlt)).1
          rw [skp_step hlt h2 hi]
          rcases ih (n - nt b) (by omega) (nt b) (nt b) rfl (hB b hlt hb) (hB b hlt hb) (Nat.le_refl _) (hN b hlt) with ⟨h, k⟩ | ⟨hz, h, k⟩
          · exact .inl ⟨h, fun x hx _ => k x hx (by have := hE x hx; omega)⟩
          · exact .inr ⟨hz, by omega, fun x hx _ => k x hx (by have := hE x hx; omega)⟩
        · exact ih (n - nt b) (by omega) (nt b) c rfl (hB b hlt hb) hc (hg b c hlt hb hc (by omega)) hcn
    · have : c = n := by omega
      subst this
      rw [skp_end (by omega), runE_end (by omega), wrds_end (by omega)]
      exact .inl ⟨rfl, fun x hx => by simp at hx⟩
/-- where words begin -/
theorem begs_is (hn : ∀ b, b < n → b < nt b) (_ : ∀ b, b < n → nt b ≤ n) (hB : ∀ b, b < n → B b → B (nt b)) (hg : ∀ b c, b < n → B b → B c → b < c → nt b ≤ c)
    (hp : ∀ c, B c → 0 < c → B (pv c) ∧ pv c < c ∧ nt (pv c) = c) (_ : ∀ b, B b → b ≤ n) : ∀ m b, n - b = m → B b → ∀ z, (∃ x ∈ wrds n nt ins b, x.1 = z) ↔ (B z ∧ b ≤ z ∧ z < n ∧ ins z = true ∧ (z = b ∨ ins (pv z) = false)) := by
  have hpn : ∀ b, b < n → B b → pv (nt b) = b := by
    intro b hlt hb
    have h2 := hn b hlt
    obtain ⟨p1, p2, p3⟩ := hp (nt b) (hB b hlt hb) (by omega)
    rcases Nat.lt_trichotomy (pv (nt b)) b with h | h | h
    · have := hg _ b (by omega) p1 hb h; omega
    · exact h
    · have := hg b _ hlt hb p1 h; omega
  intro m
  induction m using Nat.strongRecOn with
  | _ m ih =>
    intro b hm hb z
    by_cases hlt : b < n
    · have h2 := hn b hlt
      cases hi : ins b with
      | true =>
        have hgt := runE_gt hlt h2 hi
        have hBr : B (runE n nt ins b) := runE_bd2 hB _ b rfl hb
        have hout := run_out (ins := ins) hn _ b rfl
        have hI := ih (n - runE n nt ins b) (by omega) (runE n nt ins b) rfl hBr z
        rw [wrds_in hlt h2 hi]
        constructor
        · rintro ⟨x, hx, rfl⟩
          rcases List.mem_cons.1 hx with rfl | hx
          · exact ⟨hb, Nat.le_refl _, hlt, hi, .inl rfl⟩
          · obtain ⟨q1, q2, q3, q4, q5⟩ := hI.1 ⟨x, hx, rfl⟩
            refine ⟨q1, by omega, q3, q4, .inr ?_⟩
            rcases q5 with q5 | q5
            · rcases hout with h | h
              · rw [q5, h] at q4; cases q4
              · omega
            · exact q5
        · rintro ⟨q1, q2, q3, q4, q5⟩
          by_cases e : z = b
          · exact ⟨_, List.mem_cons_self, e.symm⟩
          · have q5' := q5.resolve_left e
            have hz : ¬ z < runE n nt ins b := by
              intro hz
              obtain ⟨p1, p2, p3⟩ := hp z q1 (by omega)
              have hbp : b ≤ pv z := by
                by_cases h : b ≤ pv z
                · exact h
                · have := hg (pv z) b (by omega) p1 hb (by omega); omega
              have := (run_mid (ins := ins) hn hB hg _ b (pv z) rfl hb p1 hbp (by omega)).1
              rw [this] at q5'; cases q5'
            obtain ⟨x, hx, hxz⟩ := hI.2 ⟨q1, by omega, q3, q4, .inr q5'⟩
            exact ⟨x, List.mem_cons_of_mem _ hx, hxz⟩
      | false =>
        rw [wrds_out hlt h2 hi, ih (n - nt b) (by omega) (nt b) rfl (hB b hlt hb) z]
        constructor
        · rintro ⟨q1, q2, q3, q4, q5⟩
          refine ⟨q1, by omega, q3, q4, .inr ?_⟩
          rcases q5 with q5 | q5
          · rw [q5, hpn b hlt hb, hi]
          · exact q5
        · rintro ⟨q1, q2, q3, q4, q5⟩
          have e : z ≠ b := fun e => by rw [e, hi] at q4; cases q4
          exact ⟨q1, hg b z hlt hb q1 (by omega), q3, q4, .inr (q5.resolve_left e)⟩
    · rw [wrds_end hlt]
      constructor
      · rintro ⟨x, hx, _⟩; simp at hx
      · rintro ⟨q1, q2, q3, _⟩; omega
theorem bck_last (hn : ∀ b, b < n → b < nt b) (hN : ∀ b, b < n → nt b ≤ n) (hB : ∀ b, b < n → B b → B (nt b)) (hg : ∀ b c, b < n → B b → B c → b < c → nt b ≤ c)
    (hp : ∀ c, B c → 0 < c → B (pv c) ∧ pv c < c ∧ nt (pv c) = c) (hBn : ∀ b, B b → b ≤ n) (hB0 : B 0) (c : Nat) (hc : B c) : IsLast (wrds n nt ins 0) c (bck pv ins c false) := by
  have hbeg := begs_is (ins := ins) hn hN hB hg hp hBn _ 0 rfl hB0
  generalize wrds n nt ins 0 = W at hbeg
  have skip : ∀ p z, B p → p < n → (¬ ∃ x ∈ W, x.1 = p) → IsLast W p z → IsLast W (nt p) z := by
    intro p z hp1 hpn hno h
    have key : ∀ x ∈ W, x.1 < nt p → x.1 < p := by
      intro x hx hxn
      have hBx := ((hbeg x.1).1 ⟨x, hx, rfl⟩).1
      rcases Nat.lt_trichotomy x.1 p with h | h | h
      · exact h
      · exact absurd ⟨x, hx, h⟩ hno
      · have := hg p x.1 hpn hp1 hBx h; omega
    have := hn p hpn
    rcases h with ⟨h, k⟩ | ⟨hz, h, k⟩
    · exact .inl ⟨h, fun x hx hl => k x hx (key x hx hl)⟩
    · exact .inr ⟨hz, by omega, fun x hx hl => k x hx (key x hx hl)⟩
  have here : ∀ p, B p → p < n → (∃ x ∈ W, x.1 = p) → IsLast W (nt p) p := by
    intro p hp1 hpn hz
    refine .inr ⟨hz, hn p hpn, fun x hx hl => ?_⟩
    have hBx := ((hbeg x.1).1 ⟨x, hx, rfl⟩).1
    by_cases h : p < x.1
    · have := hg p x.1 hpn hp1 hBx h; omega
    · omega
  have C : ∀ p, B p → p < n → ins p = true → IsLast W (nt p) (bck pv ins p true) := by
    intro p
    induction p using Nat.strongRecOn with
    | _ p ih =>
      intro hp1 hpn hi
      by_cases h0 : p = 0
      · subst h0
        rw [bck_zero]
        exact here 0 hp1 hpn ((hbeg 0).2 ⟨hp1, Nat.le_refl _, hpn, hi, .inl rfl⟩)
      · obtain ⟨q1, q2, q3⟩ := hp p hp1 (by omega)
        cases hq : ins (pv p) with
        | true =>
          rw [bck_in (by omega) q2 hq]
          have := ih (pv p) q2 q1 (by omega) hq
          rw [q3] at this
          refine skip p _ hp1 hpn (fun he => ?_) this
          obtain ⟨_, _, _, _, h5⟩ := (hbeg p).1 he
          rcases h5 with h5 | h5
          · exact h0 h5
          · rw [hq] at h5; cases h5
        | false =>
          rw [bck_stop (by omega) q2 hq]
          exact here p hp1 hpn ((hbeg p).2 ⟨hp1, Nat.zero_le _, hpn, hi, .inr hq⟩)
  induction c using Nat.strongRecOn with
  | _ c ih =>
    by_cases h0 : c = 0
    · subst h0
      rw [bck_zero]
      exact .inl ⟨rfl, fun x hx => by omega⟩
    · obtain ⟨q1, q2, q3⟩ := hp c hc (by omega)
      have hpn : pv c < n := by have := hBn c hc; omega
      cases hq : ins (pv c) with
      | true =>
        rw [bck_in (by omega) q2 hq]
        have := C (pv c) q1 hpn hq
        rwa [q3] at this
      | false =>
        rw [bck_out (by omega) q2 hq]
        have := skip (pv c) _ q1 hpn (fun he => by have := ((hbeg _).1 he).2.2.2.1; rw [hq] at this; cases this) (ih (pv c) q2 q1)
        rwa [q3] at this
end
/-- a place that is the end or where a cluster begins -/
def Bd (T : Tab) (s : List Int) (b : Nat) : Prop := b ≤ s.length ∧ (b = s.length ∨ begAt T s b = true)
theorem Bd.zero (T : Tab) (s : List Int) : Bd T s 0 := by
  refine ⟨Nat.zero_le _, ?_⟩
  cases s with
  | nil => exact .inl rfl
  | cons x l => exact .inr rfl
theorem Bd.isB {T : Tab} {s : List Int} {b : Nat} (h : Bd T s b) : isB T s b = true := by
  rcases h.2 with h | h
  · subst h; exact isB_len T s
  · rw [isB_lt (begAt_lt h)]; exact h
theorem Bd.of {T : Tab} {s : List Int} {b : Nat} (hb : b ≤ s.length) (h : Go.Proofs.YtkeainhjghdfcaaGreat.isB T s b = true) : Bd T s b := by
  refine ⟨hb, ?_⟩
  by_cases e : b = s.length
  · exact .inl e
  · rw [isB_lt (by omega)] at h; exact .inr h
theorem Bd.isI {T : Tab} {s : List Int} {b : Nat} (h : Bd T s b) : isI T s (b : Int) = true := by
  unfold Go.Proofs.YtkeainhjghdfcaaGreat.isI
  rw [decide_eq_true (by omega), decide_eq_true (by have := h.1; omega), Bool.true_and, Bool.true_and]
  exact h.isB
theorem bd_next {T : Tab} (H : T.Ok) {s : List Int} (b : Nat) (hl : b < s.length) (hb : Bd T s b) : Bd T s (nxt T s b) :=
  ⟨(nx_spec H (hb.2.resolve_left (by omega))).2.1, (nx_spec H (hb.2.resolve_left (by omega))).2.2.2⟩
theorem bd_gap {T : Tab} (H : T.Ok) {s : List Int} (b c : Nat) (hl : b < s.length) (hb : Bd T s b) (hc : Bd T s c) (h : b < c) : nxt T s b ≤ c := by
  obtain ⟨h1, h2, h3, h4⟩ := nx_spec H (hb.2.resolve_left (by omega))
  by_cases e : c < nxt T s b
  · have := h3 c h e
    rcases hc.2 with hc | hc
    · unfold nxt at e; omega
    · rw [this] at hc; cases hc
  · omega
theorem bd_prev {T : Tab} (H : T.Ok) {s : List Int} (c : Nat) (hc : Bd T s c) (h0 : 0 < c) : Bd T s (prv T s c) ∧ prv T s c < c ∧ nxt T s (prv T s c) = c := by
  have hlt := prv_lt T h0 hc.1
  have hle := hc.1
  have hv : prv T s c = floorB T s (c - 1) := by
    unfold prv prevI
    rw [show max (min (c : Int) ((s.length : Int) + 1)) 0 - 1 = ((c - 1 : Nat) : Int) by omega]
    by_cases e : c - 1 = 0
    · rw [floorI_nonpos (by omega), e]; rfl
    · rw [floorI_mid (by omega) (by omega)]
  have hp : Bd T s (prv T s c) := by
    rcases floorB_is T s (c - 1) with h | h
    · rw [hv, h]; exact Bd.zero T s
    · rw [hv]; exact Bd.of (by omega) h
  refine ⟨hp, hlt, ?_⟩
  have h1 := bd_gap H _ c (by omega) hp hc hlt
  have h2 := nxt_gt T (s := s) (b := prv T s c) (by omega)
  have h3 := bd_next H _ (by omega) hp
  by_cases e : nxt T s (prv T s c) = c
  · exact e
  · have := floorB_none T s (c - 1) (nxt T s (prv T s c)) (by omega) (by omega)
    rw [h3.isB] at this; cases this
theorem fwdI_first {R : List Rw} (H : (tabOf R).Ok) {s : List Int} {a : Int} {c : Nat} (ha : ceilI (tabOf R) s a = c) (hc : Bd (tabOf R) s c) : IsFirst (wrdsR R s) s.length c (fwdI R s a) := by
  unfold fwdI wrdsR
  rw [ha]
  exact fwd_first (B := Bd (tabOf R) s) (fun b h => nxt_gt _ h) (fun b h => nxt_le _ (by omega)) (bd_next H) (bd_gap H) _ 0 c rfl (Bd.zero _ _) hc (Nat.zero_le _) hc.1
theorem bckI_last {R : List Rw} (H : (tabOf R).Ok) {s : List Int} {a : Int} {c : Nat} (ha : floorI (tabOf R) s a = c) (hc : Bd (tabOf R) s c) : IsLast (wrdsR R s) c (bckI R s a) := by
  unfold bckI wrdsR
  rw [ha]
  exact bck_last (B := Bd (tabOf R) s) (fun b h => nxt_gt _ h) (fun b h => nxt_le _ (by omega)) (bd_next H) (bd_gap H) (bd_prev H) (fun b h => h.1) (Bd.zero _ _) c hc
theorem wrdsR_ends (R : List Rw) (s : List Int) : (∀ x ∈ wrdsR R s, x.1 < x.2 ∧ x.2 ≤ s.length) ∧ (wrdsR R s).Pairwise (fun x y => x.2 ≤ y.1) := by
  obtain ⟨h1, h2⟩ := wrds_ends (n := s.length) (nt := nxt (tabOf R) s) (ins := insR R s) (fun b h => nxt_gt _ h) (fun b h => nxt_le _ (by omega)) _ 0 rfl (Nat.zero_le _)
  exact ⟨fun x hx => (h1 x hx).2, h2⟩
theorem wrds_bd {n : Nat} {nt : Nat → Nat} {ins : Nat → Bool} {B : Nat → Prop} (hn : ∀ b, b < n → b < nt b) (hB : ∀ b, b < n → B b → B (nt b)) : ∀ m b, n - b = m → B b → ∀ x ∈ wrds n nt ins b, B x.1 ∧ B x.2 := by
  intro m
  induction m using Nat.strongRecOn with
  | _ m ih =>
    intro b hm hb x hx
    by_cases hlt : b < n
    · have h2 := hn b hlt
      cases hi : ins b with
      | true =>
        have hgt := runE_gt hlt h2 hi
        have hBr : B (runE n nt ins b) := runE_bd2 hB _ b rfl hb
        rw [wrds_in hlt h2 hi] at hx
        rcases List.mem_cons.1 hx with rfl | hx
        · exact ⟨hb, hBr⟩
        · exact ih (n - runE n nt ins b) (by omega) _ rfl hBr x hx
      | false =>
        rw [wrds_out hlt h2 hi] at hx
        exact ih (n - nt b) (by omega) _ rfl (hB b hlt hb) x hx
    · rw [wrds_end hlt] at hx; simp at hx
theorem wrdsR_bd {R : List Rw} (H : (tabOf R).Ok) {s : List Int} : ∀ x ∈ wrdsR R s, Bd (tabOf R) s x.1 ∧ Bd (tabOf R) s x.2 :=
  wrds_bd (B := Bd (tabOf R) s) (fun _ h => nxt_gt _ h) (bd_next H) _ 0 rfl (Bd.zero _ _)
end Go.Proofs.YtkeainhjghdfcaaGreat

/- How an index learns of a change, plainly. -/
namespace Go.Proofs.YtkeainhjghdfcaaGreat

/-- texts that are the same ahead of a place and behind one -/
structure Win (o l : List Int) (f was is : Nat) : Prop where
  fw : f ≤ was
  wo : was ≤ o.length
  fi : f ≤ is
  il : is ≤ l.length
  pre : o.take f = l.take f
  suf : o.drop was = l.drop is
section
variable {T : Tab} {o l : List Int} {f was is : Nat}
theorem begAt_pre (h : o.take f = l.take f) {i : Nat} (hi : i < f) : begAt T o i = begAt T l i := by
  have h1 : o[i]? = l[i]? := by rw [← List.getElem?_take_of_lt hi, h, List.getElem?_take_of_lt hi]
  have h2 : o.take i = l.take i := by
    have := congrArg (List.take i) h
    rwa [List.take_take, List.take_take, Nat.min_eq_left (by omega)] at this
  unfold begAt
  rw [h1, h2]
theorem agree {f : Nat} : ∀ (A B : List Nat), A.Pairwise (· < ·) → B.Pairwise (· < ·) → (∀ j, j < f → (j ∈ A ↔ j ∈ B)) → ∀ (k x : Nat), A[k]? = some x → x < f → B[k]? = some x ∧ B.take k = A.take k
  | [], _, _, _, _, k, x, hk, _ => by simp at hk
  | a :: A, B, hA, hB, hm, k, x, hk, hx => by
    obtain ⟨hA1, hA2⟩ := List.pairwise_cons.1 hA
    have hax : a ≤ x := by
      cases k with
      | zero => simp at hk; omega
      | succ k =>
        have : x ∈ A := List.mem_of_getElem? (by simpa using hk)
        have := hA1 x this; omega
    have haB := (hm a (by omega)).1 List.mem_cons_self
    cases B with
    | nil => simp at haB
    | cons b B =>
      obtain ⟨hB1, hB2⟩ := List.pairwise_cons.1 hB
      have hba : b ≤ a := by
        rcases List.mem_cons.1 haB with h | h
        · omega
        · have := hB1 a h; omega
      have hab : a ≤ b := by
        rcases List.mem_cons.1 ((hm b (by omega)).2 List.mem_cons_self) with h | h
        · omega
        · have := hA1 b h; omega
      have e : b = a := by omega
      subst e
      cases k with
      | zero => exact ⟨by simpa using hk, rfl⟩
      | succ k =>
        have := agree (f := f) A B hA2 hB2 (fun j hj => ⟨fun h => by
          have h3 := hA1 j h
          rcases List.mem_cons.1 ((hm j hj).1 (List.mem_cons_of_mem _ h)) with h4 | h4
          · omega
          · exact h4, fun h => by
          have h3 := hB1 j h
          rcases List.mem_cons.1 ((hm j hj).2 (List.mem_cons_of_mem _ h)) with h4 | h4
          · omega
          · exact h4⟩) k x (by simpa using hk) hx
        exact ⟨by simpa using this.1, by rw [List.take_succ_cons, List.take_succ_cons, this.2]⟩
theorem idx_first (h : o.take f = l.take f) {k x : Nat} (hk : (starts T o)[k]? = some x) (hx : x < f) : (starts T l)[k]? = some x ∧ (starts T l).take k = (starts T o).take k :=
  agree (f := f) _ _ (starts_sorted T o) (starts_sorted T l) (fun j hj => by rw [starts_mem, starts_mem, begAt_pre h hj]) k x hk hx
theorem start_next (H : T.Ok) {m a : Nat} (hm : (starts T l)[m]? = some a) : (m + 1 < (starts T l).length → (starts T l)[m + 1]? = some (nxt T l a)) ∧ (m + 1 = (starts T l).length → nxt T l a = l.length) := by
  have hb := (starts_mem T l a).1 (List.mem_of_getElem? hm)
  have hl := begAt_lt hb
  have hbd : Bd T l a := ⟨by omega, .inr hb⟩
  have hn := bd_next H a hl hbd
  have hgt := nxt_gt T hl
  constructor
  · intro h
    obtain ⟨q', hq'⟩ : ∃ q, (starts T l)[m + 1]? = some q := ⟨_, List.getElem?_eq_getElem h⟩
    obtain ⟨h1, h2⟩ := sorted_between (starts_sorted T l) hm hq'
    have hb' := (starts_mem T l q').1 (List.mem_of_getElem? hq')
    have hl' := begAt_lt hb'
    have h3 := bd_gap H a q' hl hbd ⟨by omega, .inr hb'⟩ h1
    have e : nxt T l a = q' := by
      by_cases e : nxt T l a < q'
      · have := hn.2.resolve_left (by omega)
        exact absurd ⟨hgt, e⟩ (h2 _ ((starts_mem T l _).2 this))
      · omega
    rw [hq', e]
  · intro h
    have hmax := sorted_last (starts_sorted T l) hm h
    rcases hn.2 with h3 | h3
    · exact h3
    · have := hmax _ ((starts_mem T l _).2 h3); omega
theorem idx_rest (H : T.Ok) (hw : o.drop was = l.drop is) {m a q s : Nat} (hA : (starts T l)[m]? = some a) (hS : (starts T o)[q]? = some s) (ha : is ≤ a) (hs : (s : Int) + ((is : Int) - (was : Int)) = (a : Int)) :
    (starts T l).length - m = (starts T o).length - q ∧ ∀ i x, (starts T o)[q + i]? = some x → ∃ y, (starts T l)[m + i]? = some y ∧ (y : Int) = (x : Int) + ((is : Int) - (was : Int)) := by
  have h1 := starts_suffix H hA
  have h2 := starts_suffix H hS
  have hd : o.drop s = l.drop a := by
    have := congrArg (List.drop (a - is)) hw
    rwa [List.drop_drop, List.drop_drop, show was + (a - is) = s by omega, show is + (a - is) = a by omega] at this
  rw [hd] at h2
  constructor
  · have e1 := congrArg List.length h1
    have e2 := congrArg List.length h2
    rw [List.length_map, List.length_drop] at e1 e2
    omega
  · intro i x hx
    rw [← List.getElem?_drop, ← h2, List.getElem?_map] at hx
    cases hg : (starts T (l.drop a))[i]? with
    | none => rw [hg] at hx; simp at hx
    | some z =>
      rw [hg] at hx
      simp at hx
      refine ⟨z + a, ?_, by omega⟩
      rw [← List.getElem?_drop, ← h1, List.getElem?_map, hg]
      rfl
theorem ahd_found {S : List Nat} (hS : S.Pairwise (· < ·)) (a : Int) : FoundI S a (ahd S a) := by
  induction S with
  | nil => exact ⟨ahd_le _ _, fun j s _ h => by simp at h, fun j s _ h => by simp at h⟩
  | cons x S ih =>
    obtain ⟨h1, h2⟩ := List.pairwise_cons.1 hS
    by_cases hx : (x : Int) < a
    · have e : ahd (x :: S) a = ahd S a + 1 := by unfold ahd; rw [List.takeWhile_cons, if_pos (by simpa using hx), List.length_cons]
      have hF := ih h2
      rw [e]
      refine ⟨by have := hF.le; simp; omega, fun j s hj hs => ?_, fun j s hj hs => ?_⟩
      · cases j with
        | zero => simp at hs; omega
        | succ j => exact hF.lo j s (by omega) (by simpa using hs)
      · cases j with
        | zero => omega
        | succ j => exact hF.hi j s (by omega) (by simpa using hs)
    · have e : ahd (x :: S) a = 0 := by unfold ahd; rw [List.takeWhile_cons, if_neg (by simpa using hx)]; rfl
      rw [e]
      refine ⟨Nat.zero_le _, fun j s hj hs => by omega, fun j s hj hs => ?_⟩
      cases j with
      | zero => simp at hs; omega
      | succ j =>
        have := h1 s (List.mem_of_getElem? (by simpa using hs)); omega
theorem zero_start (T : Tab) (l : List Int) : (starts T l)[0]? = some 0 ∨ (0 = (starts T l).length ∧ 0 = l.length) := by
  cases h : (starts T l)[0]? with
  | none =>
    have hl : (starts T l).length = 0 := by
      by_cases e : 0 < (starts T l).length
      · rw [List.getElem?_eq_getElem e] at h; cases h
      · omega
    have := starts_nil_iff.1 (List.eq_nil_of_length_eq_zero hl)
    exact .inr ⟨hl.symm, by rw [this]; rfl⟩
  | some q => exact .inl (by rw [start_zero h])
/-- where learning begins -/
theorem idx_start (hW : Win o l f was is) {k : Nat} (hk : k = ahd (starts T o) (f : Int) - 1) {a : Nat} (ha : a = ((starts T o)[k]?).getD 0) :
    (starts T o).take k = (starts T l).take k ∧ k ≤ (starts T o).length ∧ k ≤ (starts T l).length ∧ ((starts T l)[k]? = some a ∨ (k = (starts T l).length ∧ a = l.length)) := by
  have hF := ahd_found (starts_sorted T o) (f : Int)
  have hle := hF.le
  by_cases hj : ahd (starts T o) (f : Int) = 0
  · have hk0 : k = 0 := by omega
    subst hk0
    have ha0 : a = 0 := by
      rw [ha]
      cases h : (starts T o)[0]? with
      | none => rfl
      | some q => exact start_zero h
    subst ha0
    exact ⟨rfl, Nat.zero_le _, Nat.zero_le _, zero_start T l⟩
  · obtain ⟨x, hx⟩ : ∃ x, (starts T o)[k]? = some x := ⟨_, List.getElem?_eq_getElem (by omega)⟩
    have hxf := hF.lo k x (by omega) hx
    obtain ⟨h1, h2⟩ := idx_first hW.pre hx (by omega)
    rw [hx] at ha
    have ha' : a = x := ha
    rw [ha']
    have := (List.getElem?_eq_some_iff.1 h1).1
    exact ⟨h2.symm, by omega, by omega, .inl h1⟩
end
end Go.Proofs.YtkeainhjghdfcaaGreat

/- Index: plain facts for its laws. -/
namespace Go.Proofs.YtkeainhjghdfcaaGreat

theorem sorted_ge : ∀ (S : List Nat) (b : Nat), S.Pairwise (· < ·) → (∀ x ∈ S, b ≤ x) → ∀ i x, S[i]? = some x → b + i ≤ x
  | [], _, _, _, i, x, h => by simp at h
  | a :: S, b, hp, hb, i, x, h => by
    obtain ⟨h1, h2⟩ := List.pairwise_cons.1 hp
    have h0 := hb a List.mem_cons_self
    cases i with
    | zero => simp at h; omega
    | succ i =>
      have := sorted_ge S (a + 1) h2 (fun y hy => h1 y hy) i x (by simpa using h)
      omega
/-- there are no more clusters than scalars -/
theorem starts_len (T : Tab) (s : List Int) : (starts T s).length ≤ s.length := by
  by_cases h : (starts T s).length = 0
  · omega
  · obtain ⟨x, hx⟩ : ∃ x, (starts T s)[(starts T s).length - 1]? = some x := ⟨_, List.getElem?_eq_getElem (by omega)⟩
    have h1 := sorted_ge (starts T s) 0 (starts_sorted T s) (fun _ _ => Nat.zero_le _) _ x hx
    have h2 := begAt_lt ((starts_mem T s x).1 (List.mem_of_getElem? hx))
    omega
theorem starts_nil (T : Tab) : starts T [] = [] := starts_nil_iff.2 rfl
theorem Win.zero (l : List Int) : Win [] l 0 0 l.length := ⟨Nat.le_refl _, Nat.le_refl _, Nat.zero_le _, Nat.le_refl _, rfl, by simp⟩
/-- what stands in a place, and a window that is as wide, or wider -/
theorem Win.put {l m ins : List Int} {f t b e : Nat} (hm : m = l.take f ++ ins ++ l.drop t) (hft : f ≤ t) (ht : t ≤ l.length) (hb : b ≤ f) (he : t + e ≤ l.length) : Win l m (f - b) (t + e) (f + ins.length + e) := by
  have hlf : (l.take f).length = f := by rw [List.length_take]; omega
  refine ⟨by omega, he, by omega, ?_, ?_, ?_⟩
  · rw [hm, List.length_append, List.length_append, hlf, List.length_drop]; omega
  · rw [hm, List.append_assoc, List.take_append_of_le_length (by omega), List.take_take, Nat.min_eq_left (by omega)]
  · have hl : (l.take f ++ ins).length = f + ins.length := by rw [List.length_append, hlf]
    have h1 : m.drop (f + ins.length) = l.drop t := by
      rw [hm, List.drop_append_of_le_length (by omega), List.drop_eq_nil_of_le (by omega), List.nil_append]
    have h2 : m.drop (f + ins.length + e) = (m.drop (f + ins.length)).drop e := by rw [List.drop_drop]
    rw [h2, h1, List.drop_drop]
end Go.Proofs.YtkeainhjghdfcaaGreat

/- Units: plain law of places. No program is named here. -/
namespace Go.Proofs.YtkeainhjghdfcaaGreat

section
variable {T : Tab} {s : List Int}
theorem starts_zero (T : Tab) {s : List Int} (hs : s ≠ []) : (starts T s)[0]? = some 0 := by
  have h0 := (starts_mem T s 0).2 (begAt_zero T hs)
  obtain ⟨i, hi⟩ := List.mem_iff_getElem?.1 h0
  rcases Nat.eq_zero_or_pos i with rfl | hp
  · exact hi
  · have hl := (List.getElem?_eq_some_iff.1 hi).1
    have hS := starts_sorted T s
    rw [List.pairwise_iff_getElem] at hS
    obtain ⟨a1, a2⟩ := List.getElem?_eq_some_iff.1 hi
    have := hS 0 i (by omega) a1 hp
    omega
/-- the clusters behind a boundary are the rest of all clusters -/
theorem clus_at (H : T.Ok) : ∀ (m a : Nat), (starts T s)[m]? = some a → clus T (s.drop a) = (clus T s).drop m
  | 0, a, h => by
    have hs : s ≠ [] := fun e => by subst e; rw [starts_nil] at h; simp at h
    rw [starts_zero T hs] at h
    cases h
    rfl
  | m + 1, a, h => by
    have hl := (List.getElem?_eq_some_iff.1 h).1
    obtain ⟨b, hb⟩ : ∃ b, (starts T s)[m]? = some b := ⟨_, List.getElem?_eq_getElem (by omega)⟩
    have h1 := (start_next H hb).1 hl
    rw [h] at h1
    have hba : a = b + nx T (s.drop b) := Option.some.inj h1
    have ih := clus_at H m b hb
    have hbl := begAt_lt ((starts_mem T s b).1 (List.mem_of_getElem? hb))
    have hne : s.drop b ≠ [] := fun e => by have := congrArg List.length e; rw [List.length_drop] at this; simp at this; omega
    rw [clus_step T hne] at ih
    have : (clus T s).drop (m + 1) = ((clus T s).drop m).drop 1 := by rw [List.drop_drop]
    rw [this, ← ih, hba, ← List.drop_drop]
    rfl
theorem starts_clus (H : T.Ok) : (starts T s).length = (clus T s).length := by
  by_cases hs : s = []
  · subst hs; rw [starts_nil]; rfl
  · have h0 := starts_zero T hs
    have hl : 0 < (starts T s).length := (List.getElem?_eq_some_iff.1 h0).1
    obtain ⟨a, ha⟩ : ∃ a, (starts T s)[(starts T s).length - 1]? = some a := ⟨_, List.getElem?_eq_getElem (by omega)⟩
    have h1 := clus_at H _ a ha
    have h2 := (start_next H ha).2 (by omega)
    have hbl := begAt_lt ((starts_mem T s a).1 (List.mem_of_getElem? ha))
    have hne : s.drop a ≠ [] := fun e => by have := congrArg List.length e; rw [List.length_drop] at this; simp at this; omega
    rw [clus_step T hne, List.drop_drop] at h1
    have h3 : a + nx T (s.drop a) = s.length := h2
    rw [h3, List.drop_length, clus_nil] at h1
    have h4 := congrArg List.length h1
    rw [List.length_drop] at h4
    simp at h4
    omega
/-- a cluster, by the boundaries around it -/
theorem clus_get (H : T.Ok) {m a : Nat} (h : (starts T s)[m]? = some a) : (clus T s)[m]? = some ((s.drop a).take (nx T (s.drop a))) := by
  have h1 := clus_at H m a h
  have hbl := begAt_lt ((starts_mem T s a).1 (List.mem_of_getElem? h))
  have hne : s.drop a ≠ [] := fun e => by have := congrArg List.length e; rw [List.length_drop] at this; simp at this; omega
  rw [clus_step T hne] at h1
  have h2 : ((clus T s).drop m)[0]? = some ((s.drop a).take (nx T (s.drop a))) := by rw [← h1]; rfl
  rw [List.getElem?_drop] at h2
  exact h2
end
/-- how many units of UTF-16 a scalar has -/
def unN (r : Int) : Nat := if r > 65535 ∧ validB r = true then 2 else 1
def bytesTo (s : List Int) (i : Nat) : Nat := ((s.take i).map sizeN).sum
def unitsTo (s : List Int) (i : Nat) : Nat := ((s.take i).map unN).sum
theorem bytesTo_succ {s : List Int} {i : Nat} {x : Int} (h : s[i]? = some x) : bytesTo s (i + 1) = bytesTo s i + sizeN x := by
  unfold bytesTo; rw [List.take_add_one, h, List.map_append, List.sum_append]; simp
theorem unitsTo_succ {s : List Int} {i : Nat} {x : Int} (h : s[i]? = some x) : unitsTo s (i + 1) = unitsTo s i + unN x := by
  unfold unitsTo; rw [List.take_add_one, h, List.map_append, List.sum_append]; simp
theorem unN_rng (x : Int) : 1 ≤ unN x ∧ unN x ≤ 2 := by unfold unN; split <;> omega
theorem bytesTo_le (s : List Int) : ∀ i, i ≤ s.length → i ≤ bytesTo s i ∧ bytesTo s i ≤ 4 * i
  | 0, _ => by simp [bytesTo]
  | i + 1, h => by
    obtain ⟨x, hx⟩ : ∃ x, s[i]? = some x := ⟨_, List.getElem?_eq_getElem (by omega)⟩
    have := bytesTo_le s i (by omega)
    have h2 := sizeN_rng x
    rw [bytesTo_succ hx]
    omega
theorem unitsTo_le (s : List Int) : ∀ i, i ≤ s.length → i ≤ unitsTo s i ∧ unitsTo s i ≤ 2 * i
  | 0, _ => by simp [unitsTo]
  | i + 1, h => by
    obtain ⟨x, hx⟩ : ∃ x, s[i]? = some x := ⟨_, List.getElem?_eq_getElem (by omega)⟩
    have := unitsTo_le s i (by omega)
    have h2 := unN_rng x
    rw [unitsTo_succ hx]
    omega
/-- a place's numbers: scalars, bytes, units, clusters, columns; of cluster k from a on, at i -/
abbrev Ps := Int × Int × Int × Int × Int
def psE (p : Ps) : List Value := [.int .i64 p.1, .int .i64 p.2.1, .int .i64 p.2.2.1, .int .i64 p.2.2.2.1, .int .i64 p.2.2.2.2]
theorem psE_len (p : Ps) : (psE p).length = 5 := rfl
theorem psE_one (p : Ps) : ∀ u ∈ psE p, u.oneCell' = true := by intro u hu; simp [psE] at hu; rcases hu with rfl | rfl | rfl | rfl | rfl <;> rfl
/-- columns of the first k clusters -/
def colsTo (R : List Rw) (s : List Int) (k : Nat) : Int := wdG (lineG R ((clus (tabOf R) s).take k))
theorem colsTo_succ (R : List Rw) {s : List Int} {k : Nat} {c : List Int} (h : (clus (tabOf R) s)[k]? = some c) : colsTo R s (k + 1) = colsTo R s k + wdG (glOf R c) := by
  unfold colsTo
  rw [List.take_add_one, h]
  show wdG (lineG R ((clus (tabOf R) s).take k ++ [c])) = _
  rw [lineG_snoc, wdG_app]
/-- the place ahead of scalar i, within cluster k that begins at a -/
def plc (R : List Rw) (s : List Int) (k a i : Nat) : Ps := ((i : Int), (bytesTo s i : Int), (unitsTo s i : Int), (if i = a then (k : Int) else (k : Int) + 1), colsTo R s k)
end Go.Proofs.YtkeainhjghdfcaaGreat

/- Where the cursor stands among glyphs. No program is named here. -/
namespace Go.Proofs.YtkeainhjghdfcaaGreat
open Go.RowKit

/-- the places ahead of a place -/
theorem ahd_lt {a : Int} : ∀ {S : List Nat}, S.Pairwise (· < ·) → ∀ {j x : Nat}, S[j]? = some x → ((x : Int) < a ↔ j < ahd S a)
  | [], _, _, _, hx => by cases hx
  | y :: S, hS, j, x, hx => by
    rw [List.pairwise_cons] at hS
    unfold ahd
    rw [List.takeWhile_cons]
    by_cases hy : (y : Int) < a
    · rw [if_pos (by simpa using hy)]
      rcases j with _ | j
      · cases hx; simp [hy]
      · have := ahd_lt (a := a) hS.2 (j := j) (x := x) hx
        unfold ahd at this
        rw [this, List.length_cons]; omega
    · rw [if_neg (by simpa using hy)]
      rcases j with _ | j
      · cases hx; simp [hy]
      · have := hS.1 x (List.mem_of_getElem? hx)
        simp; omega
/-- the glyphs ahead of the first cluster, of those from n on, that is not ahead of the cursor -/
def kAt (R : List Rw) (s : List Int) (c : Int) (n : Nat) : Nat := aheadG R (clus (tabOf R) s) (max n (ahd (starts (tabOf R) s) c))
theorem kAt_hit {R : List Rw} {s : List Int} {c : Int} {n : Nat} (h : ahd (starts (tabOf R) s) c ≤ n) : kAt R s c n = aheadG R (clus (tabOf R) s) n := by unfold kAt; rw [Nat.max_eq_left h]
theorem kAt_miss {R : List Rw} {s : List Int} {c : Int} {n : Nat} (h : n < ahd (starts (tabOf R) s) c) : kAt R s c n = kAt R s c (n + 1) := by unfold kAt; rw [Nat.max_eq_right (by omega), Nat.max_eq_right (by omega)]
theorem kAt_zero {R : List Rw} {s : List Int} {c : Int} : kAt R s c 0 = aheadG R (clus (tabOf R) s) (ahd (starts (tabOf R) s) c) := by unfold kAt; rw [Nat.zero_max]
theorem kAt_all {R : List Rw} (H : (tabOf R).Ok) {s : List Int} {c : Int} : kAt R s c (starts (tabOf R) s).length = (lineG R (clus (tabOf R) s)).length := by
  rw [kAt_hit (ahd_le _ _), starts_clus H]
  unfold aheadG lineG
  rw [List.take_length]
end Go.Proofs.YtkeainhjghdfcaaGreat
