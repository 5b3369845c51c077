/- Joined texts: SortL SortM RowsB TrieA TrieK TrieU TrieE Api AppO. -/
import Derived.Shelf.SlSortCmp.WholeK
import Derived.Shelf.SlSortCmp.NoneTotal
import Derived.Great.Walk
import Derived.Great.CaseRows
import Derived.Test.YtkeainhjghdfcaaGreatCwac
import Derived.Test.YtkeainhjghdfcaaGreatCwaa
import Derived.Test.YtkeainhjghdfcaaGreatCwab

/- The library sort of spans, as it lies in this program (laid by the kit). -/
namespace Go.Proofs.YtkeainhjghdfcaaGreat
open Go.Shelf Go.RowKit Go.Lib Go.Sort

def Tryz.sortSpans_ren : Go.Shelf.Ren := ⟨fun | 6 => 113 | 15 => 168 | 14 => 167 | 28 => 192 | 29 => 193 | 20 => 184 | 21 => 185 | 22 => 186 | 23 => 187 | 24 => 188 | 25 => 189 | 26 => 190 | 27 => 191 | 46 => 199 | 47 => 200 | 48 => 201 | 49 => 202 | 50 => 203 | 57 => 204 | n => n, fun | 22 => 120 | 24 => 123 | 25 => 199 | 3 => 3 | 39 => 172 | 0 => 0 | 53 => 287 | 55 => 290 | 4 => 4 | 46 => 300 | 45 => 299 | 50 => 104 | 5 => 5 | 9 => 9 | 66 => 310 | 70 => 314 | 76 => 316 | 77 => 73 | n => n, fun | n => n⟩
theorem Tryz.sortSpans : Go.Proofs.SlLaysF0.n6 Tryz.prog Tryz.sortSpans_ren := {
  mixed := by kernel_rfl,
  f6 := ⟨Tryz.f113.name, by decide, Tryz.func113.trans (congrArg some (by kernel_rfl))⟩,
  f14 := ⟨Tryz.f167.name, by decide, Tryz.func167.trans (congrArg some (by kernel_rfl))⟩,
  f15 := Tryz.func168.trans (congrArg some (by kernel_rfl)),
  f20 := ⟨Tryz.f184.name, by decide, Tryz.func184.trans (congrArg some (by kernel_rfl))⟩,
  f21 := ⟨Tryz.f185.name, by decide, Tryz.func185.trans (congrArg some (by kernel_rfl))⟩,
  f22 := ⟨Tryz.f186.name, by decide, Tryz.func186.trans (congrArg some (by kernel_rfl))⟩,
  f23 := ⟨Tryz.f187.name, by decide, Tryz.func187.trans (congrArg some (by kernel_rfl))⟩,
  f24 := ⟨Tryz.f188.name, by decide, Tryz.func188.trans (congrArg some (by kernel_rfl))⟩,
  f25 := ⟨Tryz.f189.name, by decide, Tryz.func189.trans (congrArg some (by kernel_rfl))⟩,
  f26 := ⟨Tryz.f190.name, by decide, Tryz.func190.trans (congrArg some (by kernel_rfl))⟩,
  f27 := ⟨Tryz.f191.name, by decide, Tryz.func191.trans (congrArg some (by kernel_rfl))⟩,
  f28 := Tryz.func192.trans (congrArg some (by kernel_rfl)),
  f29 := Tryz.func193.trans (congrArg some (by kernel_rfl)),
  f46 := ⟨Tryz.f199.name, by decide, Tryz.func199.trans (congrArg some (by kernel_rfl))⟩,
  f47 := Tryz.func200.trans (congrArg some (by kernel_rfl)),
  f48 := Tryz.func201.trans (congrArg some (by kernel_rfl)),
  f49 := ⟨Tryz.f202.name, by decide, Tryz.func202.trans (congrArg some (by kernel_rfl))⟩,
  f50 := ⟨Tryz.f203.name, by decide, Tryz.func203.trans (congrArg some (by kernel_rfl))⟩,
  f57 := ⟨Tryz.f204.name, by decide, Tryz.func204.trans (congrArg some (by kernel_rfl))⟩,
  t0 := Tryz.underlying0,
  a0 := Tryz.isAgg0,
  z0 := Tryz.sizeOf0,
  v0 := Tryz.zeroValue0,
  t3 := Tryz.underlying3,
  a3 := Tryz.isAgg3,
  z3 := Tryz.sizeOf3,
  v3 := Tryz.zeroValue3,
  t4 := Tryz.underlying4,
  a4 := Tryz.isAgg4,
  z4 := Tryz.sizeOf4,
  v4 := Tryz.zeroValue4,
  t5 := Tryz.underlying5,
  a5 := Tryz.isAgg5,
  z5 := Tryz.sizeOf5,
  v5 := Tryz.zeroValue5,
  t9 := Tryz.underlying9,
  a9 := Tryz.isAgg9,
  z9 := Tryz.sizeOf9,
  v9 := Tryz.zeroValue9,
  t22 := Tryz.underlying120,
  a22 := Tryz.isAgg120,
  z22 := Tryz.sizeOf120,
  v22 := Tryz.zeroValue120,
  t25 := Tryz.underlying199,
  a25 := Tryz.isAgg199,
  z25 := Tryz.sizeOf199,
  v25 := Tryz.zeroValue199,
  t39 := Tryz.underlying172,
  a39 := Tryz.isAgg172,
  z39 := Tryz.sizeOf172,
  v39 := Tryz.zeroValue172,
  t45 := Tryz.underlying299,
  a45 := Tryz.isAgg299,
  z45 := Tryz.sizeOf299,
  v45 := Tryz.zeroValue299,
  t46 := Tryz.underlying300,
  a46 := Tryz.isAgg300,
  z46 := Tryz.sizeOf300,
  v46 := Tryz.zeroValue300,
  t50 := Tryz.underlying104,
  a50 := Tryz.isAgg104,
  z50 := Tryz.sizeOf104,
  v50 := Tryz.zeroValue104,
  t53 := Tryz.underlying287,
  a53 := Tryz.isAgg287,
  z53 := Tryz.sizeOf287,
  v53 := Tryz.zeroValue287,
  t55 := Tryz.underlying290,
  a55 := Tryz.isAgg290,
  z55 := Tryz.sizeOf290,
  v55 := Tryz.zeroValue290,
  t66 := Tryz.underlying310,
  a66 := Tryz.isAgg310,
  z66 := Tryz.sizeOf310,
  v66 := Tryz.zeroValue310,
  t70 := Tryz.underlying314,
  a70 := Tryz.isAgg314,
  z70 := Tryz.sizeOf314,
  v70 := Tryz.zeroValue314,
  t76 := Tryz.underlying316,
  a76 := Tryz.isAgg316,
  z76 := Tryz.sizeOf316,
  v76 := Tryz.zeroValue316,
  t77 := Tryz.underlying73,
  a77 := Tryz.isAgg73,
  z77 := Tryz.sizeOf73,
  v77 := Tryz.zeroValue73
}
end Go.Proofs.YtkeainhjghdfcaaGreat

/- What the library's sort leaves, in the words of rows of the call's own. -/
namespace Go.Proofs.YtkeainhjghdfcaaGreat
open Go.Shelf Go.RowKit Go.Lib Go.Sort

instance : Inhabited Span := ⟨⟨0, 0, 0, 0⟩⟩

theorem flatK_list (T : List Span) : (flatK spenc 4 T.toArray).toList = T.flatMap spenc := by
  refine List.ext_getElem? fun t => ?_
  have hl := flat_len spenc_len T
  by_cases h : t < T.length * 4
  · have h1 : t < (flatK spenc 4 T.toArray).size := by simp; omega
    have hd : t / 4 < T.length := by omega
    rw [Array.getElem?_toList, Array.getElem?_eq_getElem h1, ← getElem!_pos (flatK spenc 4 T.toArray) t h1, get_flatK _ _ _ t (by simpa using h)]
    have hx : T.toArray[t / 4]! = T[t / 4] := by rw [getElem!_pos _ _ (by simpa using hd)]; simp
    rw [hx]
    have h4 : t % 4 < (spenc T[t / 4]).length := by rw [spenc_len]; omega
    rw [getElem!_pos (spenc T[t / 4]) (t % 4) h4]
    have := flat_get spenc_len T (t / 4) T[t / 4] (t % 4) ((spenc T[t / 4])[t % 4]) (List.getElem?_eq_getElem hd) (List.getElem?_eq_getElem h4)
    rw [show t / 4 * 4 + t % 4 = t by omega] at this
    exact this.symm
  · rw [List.getElem?_eq_none (by simp; omega), List.getElem?_eq_none (by omega)]

theorem holds_of_own {w : World} {base g n cap : Nat} {S : List Span} (h : w.ownsRow base 123 4 (.slice (some ⟨g, 0, none⟩) n cap) n (S.flatMap spenc)) : HoldsK spenc 4 w g 0 S.toArray := by
  intro j hj
  have hj' : j < S.length * 4 := by simpa using hj
  have h1 := h.cells (g := g) rfl
  have h2 : (S.flatMap spenc)[j]? = some (flatK spenc 4 S.toArray)[j]! := by
    rw [← flatK_list, Array.getElem?_toList, Array.getElem?_eq_getElem hj, getElem!_pos _ j hj]
  have := h1 j _ h2
  rw [addr_add] at this
  rw [Nat.zero_add]
  exact ⟨this, h.frozenAt _⟩

theorem own_sorted {w : World} {base g n cap m : Nat} {S T : List Span} {os : Array Obj} (h : w.ownsRow base 123 4 (.slice (some ⟨g, 0, none⟩) n cap) n (S.flatMap spenc)) (hn : T.length = n) :
    (sortWorldK spenc 4 w g 0 m T.toArray os).ownsRow base 123 4 (.slice (some ⟨g, 0, none⟩) n cap) n (T.flatMap spenc) ∧ w.grownBy (sortWorldK spenc 4 w g 0 m T.toArray os) (some g) := by
  have hl := flat_len spenc_len T
  constructor
  · rcases h.2 with ⟨e0, _⟩ | ⟨g', cap', cur, e0, hb, hg, hnc, hm, hs, ht⟩
    · cases e0
    · injection e0 with e1 _ e3
      injection e1 with e1
      injection e1 with e1
      subst e1; subst e3
      have hlt : g < w.heap.size := (Array.getElem?_eq_some_iff.1 hg).1
      refine ⟨by rw [hl, hn], .inr ⟨g, cap, putCells id 0 (flatK spenc 4 T.toArray) cur, rfl, hb, ?_, hnc, hm, by simpa [putCells] using hs, ?_⟩⟩
      · unfold sortWorldK Sort.grow putRowK
        simp only [Go.Sort.putRow, mapBlock, Sort.ahead]
        rw [Array.getElem?_append_left (by simpa using hlt), Array.getElem?_modify]
        simp [hg, onCells]
      · apply List.ext_getElem?
        intro j
        rw [List.getElem?_take, Array.getElem?_toList]
        by_cases hj : j < n * 4
        · have hjc : j < cur.size := by rw [hs]; have := Nat.mul_le_mul_right 4 hnc; omega
          have hjf : j < (flatK spenc 4 T.toArray).size := by simp; omega
          simp only [if_pos hj, putCells, Array.getElem?_mapIdx, Array.getElem?_eq_getElem hjc, Option.map_some]
          rw [if_pos (by simp; omega), ← flatK_list, Array.getElem?_toList, Array.getElem?_eq_getElem hjf, Nat.sub_zero, getElem!_pos _ j hjf]
          rfl
        · rw [if_neg hj, List.getElem?_eq_none (by omega)]
  · refine ⟨rfl, rfl, rfl, ?_, fun k hk hne => ?_⟩
    · unfold sortWorldK Sort.grow putRowK
      simp [Go.Sort.putRow, mapBlock, Sort.ahead]
    · unfold sortWorldK Sort.grow putRowK
      simp only [Go.Sort.putRow, mapBlock, Sort.ahead]
      rw [Array.getElem?_append_left (by simpa using hk), Array.getElem?_modify, if_neg (fun e => hne (by rw [e]))]

theorem perm_of_permIn {d d' : Array Span} (h : PermIn 0 d.size d d') : d.toList.Perm d'.toList := by
  obtain ⟨h1, _, h3⟩ := h
  have e1 : d'.extract 0 d.size = d' := by rw [← h1]; simp
  have e2 : d.extract 0 d.size = d := by simp
  rw [e1, e2] at h3
  exact h3.symm

def cmpI (a b : Int) : Int := if a < b then -1 else if b < a then 1 else 0
def cmpF (x y : Span) : Int := cmpI x.f y.f
theorem ltF (x y : Span) : ltOf cmpF x y = decide (x.f < y.f) := by
  unfold ltOf cmpF cmpI
  by_cases h1 : x.f < y.f
  · simp [h1]
  · by_cases h2 : y.f < x.f <;> simp [h1, h2]
theorem swoF : SWO (ltOf cmpF) where
  irrefl x := by rw [ltF]; simp
  trans x y z h1 h2 := by rw [ltF] at *; simp at *; omega
  ntrans x y z h1 h2 := by rw [ltF] at *; simp at *; omega

theorem sorted_list {T : List Span} (h : SortedIn (ltOf cmpF) 0 T.toArray.size T.toArray) : T.Pairwise fun x y => x.f ≤ y.f := by
  rw [List.pairwise_iff_getElem]
  intro i j hi hj hij
  have := h i j (Nat.zero_le _) hij (by simpa using hj)
  rw [getElem!_pos _ i (by simpa using hi), getElem!_pos _ j (by simpa using hj), ltF] at this
  simp at this
  omega

set_option maxRecDepth 100000 in
theorem isNaN_any (a : Int) (w : World) : Calls Tryz.prog 155 #[.int .i64 a] w fun e w' => e = .returned (.bool false) ∧ w = w' := by
  have h : (a != a) = false := by simp
  go_enter Tryz.func155, Tryz.ntmps155
  go_wp2
  go_ret
  exact ⟨rfl, rfl⟩

set_option maxRecDepth 100000 in
set_option maxHeartbeats 400000 in
theorem compare_any (a b : Int) (w : World) : Calls Tryz.prog 111 #[.int .i64 a, .int .i64 b] w fun e w' => e = .returned (.int .i64 (cmpI a b)) ∧ w = w' := by
  by_cases h1 : a < b
  · have HE := Lib.hid (show cmpI a b = -1 by unfold cmpI; rw [if_pos h1])
    go_enter Tryz.func111, Tryz.ntmps111
    go_wp2_with fail
    refine (isNaN_any a w).mono ?_
    rintro e w' ⟨rfl, rfl⟩
    go_wp2_with fail
    refine (isNaN_any b w).mono ?_
    rintro e w' ⟨rfl, rfl⟩
    go_wp2
    go_ret
    exact ⟨ret_int HE.out.symm, rfl⟩
  · by_cases h2 : b < a
    · have HE := Lib.hid (show cmpI a b = 1 by unfold cmpI; rw [if_neg h1, if_pos h2])
      go_enter Tryz.func111, Tryz.ntmps111
      go_wp2_with fail
      refine (isNaN_any a w).mono ?_
      rintro e w' ⟨rfl, rfl⟩
      go_wp2_with fail
      refine (isNaN_any b w).mono ?_
      rintro e w' ⟨rfl, rfl⟩
      go_wp2
      go_ret
      exact ⟨ret_int HE.out.symm, rfl⟩
    · have HE := Lib.hid (show cmpI a b = 0 by unfold cmpI; rw [if_neg h1, if_neg h2])
      go_enter Tryz.func111, Tryz.ntmps111
      go_wp2_with fail
      refine (isNaN_any a w).mono ?_
      rintro e w' ⟨rfl, rfl⟩
      go_wp2_with fail
      refine (isNaN_any b w).mono ?_
      rintro e w' ⟨rfl, rfl⟩
      go_wp2
      go_ret
      exact ⟨ret_int HE.out.symm, rfl⟩

set_option maxRecDepth 100000 in
set_option maxHeartbeats 400000 in
theorem byFrom_any (x y : Span) (W : World) : Calls Tryz.prog 110 #[.agg #[.int .i64 x.f, .int .i64 x.t, .int .i64 x.a, .int .i64 x.b], .agg #[.int .i64 y.f, .int .i64 y.t, .int .i64 y.a, .int .i64 y.b]] W fun e w' => e = .returned (.int .i64 (cmpF x y)) ∧ ∃ q os', w' = Sort.grow (W.drewN q) os' := by
  have hcon := fun W' => compare_any x.f y.f W'
  have HC := Lib.hid hcon
  clear hcon
  go_enter Tryz.func110, Tryz.ntmps110
  go_wp2_with (go_at_call 111; refine (HC.out _).mono ?_; rintro e w' ⟨rfl, rfl⟩)
  go_ret
  exact ⟨rfl, 0, _, by rw [alloc_eq_grow, alloc_eq_grow, grow_grow]; rfl⟩

theorem sortSpans_any (base g n cap : Nat) (S : List Span) (w : World) (h : w.ownsRow base 123 4 (.slice (some ⟨g, 0, none⟩) n cap) n (S.flatMap spenc)) (hn : S.length = n) (hsz : n < 4611686018427387904) :
    Calls Tryz.prog 113 #[.slice (some ⟨g, 0, none⟩) n cap, .func (.func 110) #[] #[]] w fun e w' => e = .returned (.tuple #[]) ∧ ∃ T : List Span, S.Perm T ∧ (T.Pairwise fun x y => x.f ≤ y.f) ∧
      w'.ownsRow base 123 4 (.slice (some ⟨g, 0, none⟩) n cap) n (T.flatMap spenc) ∧ w.grownBy w' (some g) := by
  have eg : ∀ args w, (callFunc 110 args).run Tryz.prog w = .ok (.enter 110 args) w := enters_of Tryz.func110 (by kernel_rfl) rfl
  have hcon := AnyQ.slices_SortFunc Tryz.sortSpans 4 Tryz.isAgg123 Tryz.sizeOf123 spenc spenc_len spenc_one cmpF swoF 110 #[] g 0 cap S.toArray w eg (fun _ _ _ _ x y => byFrom_any x y _) (holds_of_own h) (h.lt g rfl).2 (by simpa [hn] using hsz)
  have e0 : S.toArray.size = n := by simpa using hn
  rw [e0] at hcon
  refine Calls.mono hcon ?_
  rintro e w' ⟨rfl, d', q, os, hp, hs, rfl⟩
  have hd : d'.toList.length = n := by have := hp.1; simpa [hn] using this
  have hd' : d' = d'.toList.toArray := by simp
  rw [hd']
  rw [hd'] at hs
  refine ⟨rfl, d'.toList, by have := perm_of_permIn (by rw [← e0] at hp; exact hp); simpa using this, sorted_list (by rw [show d'.toList.toArray.size = n by simpa using hd]; exact hs), (own_sorted h hd).1, (own_sorted h hd).2⟩
end Go.Proofs.YtkeainhjghdfcaaGreat

/- rows.Of. -/
namespace Go.Proofs.YtkeainhjghdfcaaGreat
open Go.RowKit

theorem run_app_rd {P : Program} (w : World) {base t ty e size bytes B : Nat} (E : ElemT P t e size bytes) (v : Value) (n : Nat) (xs : List Value) (hown : w.ownsRow base e size v n xs)
    (u : Value) (m : Nat) (news : List Value) (hR : Rd B w size u m news) (h1 : ∀ u ∈ news, u.oneCell' = true) (hbytes : (n + m) * bytes ≤ 140737488355328) (hbase : base ≤ w.heap.size) :
    ∃ v' w', (Builtin.append_ #[t, t] ty #[v, u]).run P w = .ok v' w' ∧ w'.ownsRow base e size v' (n + m) (xs ++ news) ∧ w.grownBy w' v.ownBlock := by
  obtain ⟨hu, ⟨i, z, hi, hz, hsize, hby, hzs⟩, hsz, hbp⟩ := E
  have hnm : n + m ≤ 140737488355328 := Nat.le_trans (Nat.le_mul_of_pos_right _ hbp) hbytes
  have h63 : n + m ≤ maxLen := by unfold maxLen; omega
  obtain ⟨a, cap, rfl, _, _, hl, hc⟩ := hR
  cases a with
  | none =>
    have hm : m = 0 := by
      rcases Nat.eq_zero_or_pos m with h | h
      · exact h
      · obtain ⟨b, off, h2, _⟩ := hc h; cases h2
    subst hm
    have hn : news = [] := List.eq_nil_of_length_eq_zero (by simpa using hl)
    subst hn
    refine ⟨v, w, ?_, by simpa using hown, ⟨rfl, rfl, rfl, Nat.le_refl _, fun _ _ _ => rfl⟩⟩
    rcases hown.2 with ⟨rfl, rfl⟩ | ⟨g, cap2, cur, rfl, _, _, hnc, _⟩
    · simp [Builtin.append_, run_underlying hu, sizeOf, typeInfo, hi, Builtin.lenOf, Builtin.firstCells]
    · simp [Builtin.append_, run_underlying hu, sizeOf, typeInfo, hi, Builtin.lenOf, Builtin.firstCells, hnc, storeCells]
  | some ad =>
    have hnews : ∀ j u, news[j]? = some u → w.cell? (ad.add j) = some u := by
      intro j u hju
      rcases Nat.eq_zero_or_pos m with h | h
      · subst h
        have hn : news = [] := List.eq_nil_of_length_eq_zero (by simpa using hl)
        subst hn; simp at hju
      · obtain ⟨b, off, h2, _, h3⟩ := hc h
        injection h2 with h2
        subst h2
        have : (⟨b, off, none⟩ : Addr).add j = ⟨b, off + j, none⟩ := by unfold Addr.add; split <;> simp_all
        rw [this]; exact h3 j u hju
    obtain ⟨v', w', hr, h2, h3, _⟩ := run_append_own (P := P) w base t ty e i z size bytes hu hi hz hsize hby hzs hsz v n xs hown ad m cap news hl hnews h1 h63 hbytes hbase
    exact ⟨v', w', hr, h2, h3⟩

/-- append of whatever reads as cells. -/
theorem wpList_app_rd {P : Program} (w : World) {ops : Array Oper} {rest : List Oper} {o : Oper} {act : Act} {Q : Exit → Act → World → Prop} (hgd : o.guard = none) (s x : Operand) (t : TypeId)
    (ho : o.op = .call { callee := .builtin .append, args := #[s, x], argTypes := #[t, t] })
    {base e size bytes B : Nat} (E : ElemT P t e size bytes) (v : Value) (n : Nat) (xs : List Value) (hs : act.eval s = v) (hown : w.ownsRow base e size v n xs)
    (u : Value) (m : Nat) (news : List Value) (hx : act.eval x = u) (hR : Rd B w size u m news) (h1 : ∀ u ∈ news, u.oneCell' = true)
    (hbytes : (n + m) * bytes ≤ 140737488355328) (hbase : base ≤ w.heap.size)
    (h : ∀ v' w', w'.ownsRow base e size v' (n + m) (xs ++ news) → w.grownBy w' v.ownBlock → wpList P ops Q rest (act.put o.dst v') w') : wpList P ops Q (o :: rest) act w := by
  obtain ⟨v', w', hr, h2, h3⟩ := run_app_rd (P := P) (ty := o.type) w E v n xs hown u m news hR h1 hbytes hbase
  refine wpList_plain hgd fun _ hK => ?_
  unfold Oper.wp execOp
  simp only [ho, resolve, invoke, builtin, Sem.run_bind, Sem.run_pure, Result.andThen_ok, List.map_toArray, List.map_cons, List.map_nil, hs, hx, hr]
  exact hK _ _ (h v' w' h2 h3)

/-- disjoint spans are not too many -/
theorem ris_few : ∀ (S : List Span) (lo : Int), Ris S → (∀ x ∈ S, lo ≤ x.f ∧ x.f ≤ x.t ∧ x.t ≤ 1114111) → (S.length : Int) ≤ max 0 (1114112 - lo) := by
  intro S
  induction S with
  | nil => intro lo _ _; simp; omega
  | cons x S ih =>
    intro lo hr hx
    obtain ⟨h1, h2⟩ := List.pairwise_cons.1 hr
    obtain ⟨a1, a2, a3⟩ := hx x List.mem_cons_self
    have := ih (lo + 1) h2 (fun y hy => by have := h1 y hy; obtain ⟨b1, b2, b3⟩ := hx y (List.mem_cons_of_mem _ hy); omega)
    rw [List.length_cons]
    omega
theorem good_few {S : List Span} (h : Good S) : S.length ≤ 1114112 := by
  have := ris_few S 0 h.ris h.ok
  omega

theorem spans_one (S : List Span) : ∀ u ∈ S.flatMap spenc, u.oneCell' = true := by
  intro u hu
  obtain ⟨x, _, hx⟩ := List.mem_flatMap.1 hu
  exact spenc_one x u hx

theorem sortAny (base n : Nat) (v : Value) (S : List Span) (w : World) (h : w.ownsRow base 123 4 v n (S.flatMap spenc)) (hn : S.length = n) (hsz : n < 4611686018427387904) :
    Calls Tryz.prog 113 #[v, .func (.func 110) #[] #[]] w fun e w' => e = .returned (.tuple #[]) ∧ ∃ T : List Span, S.Perm T ∧ (T.Pairwise fun x y => x.f ≤ y.f) ∧
      w'.ownsRow base 123 4 v n (T.flatMap spenc) ∧ w.grownBy w' v.ownBlock := by
  rcases Nat.eq_zero_or_pos n with h0 | h0
  · subst h0
    obtain ⟨a, cap, rfl⟩ := slice_of_owns h
    refine Calls.mono (AnyF.slices_SortFunc_none Tryz.sortSpans a cap _ w) ?_
    rintro e w' ⟨rfl, rfl⟩
    have : S = [] := List.eq_nil_of_length_eq_zero hn
    subst this
    exact ⟨rfl, [], .refl _, List.Pairwise.nil, h, ⟨rfl, rfl, rfl, Nat.le_refl _, fun _ _ _ => rfl⟩⟩
  · obtain ⟨g, cap, rfl, _, _⟩ := ownBlock_of_owns h h0
    exact sortSpans_any base g n cap S w h hn hsz

theorem says_take {S : List Span} {R : List Rw} {kind : Int} {k : Nat} {x : Rw} (hx : R[k]? = some x) (h : Says S (R.take k ++ [x]) kind) : Says S (R.take (k + 1)) kind := by
  rw [List.take_add_one, hx]; exact h

set_option maxRecDepth 100000 in
set_option maxHeartbeats 1000000 in
theorem ofSpans_any (v : Value) (R : List Rw) (kind : Int) (w : World) (hR : RowsIn w v R) :
    Calls Tryz.prog 67 #[v, .int .i64 kind] w fun e w' => ∃ v' S, e = .returned v' ∧ SpansOwn w' w.heap.size v' S ∧ Below w.heap.size w w' ∧ Good S ∧ Says S R kind := by
  have HR := Lib.hid hR
  obtain ⟨a, cap, rfl, hcap, hmax, _, _⟩ := hR
  unfold maxLen at hmax
  go_enter Tryz.func67, Tryz.ntmps67
  go_wp2
  go_loopw [5, 8, 9, 12] (fun v _ _ i wr => ∃ (k : Nat) (S : List Span), k ≤ R.length ∧ i = .int .i64 ((k : Nat) : Int) ∧ Below w.heap.size w wr ∧ SpansOwn wr w.heap.size v S ∧ Good S ∧ Says S (R.take k) kind) (fun _ _ _ i _ => R.length - (intOf i).toNat)
  case atStart => exact ⟨0, [], Nat.zero_le _, rfl, .refl _ _, World.ownsRow_nil _ _ _ _, good_nil, says_nil _⟩
  case round =>
    obtain ⟨k, S, hk, rfl, hB, hO, hG, hS⟩ := hrel
    have HB := Lib.hid hB
    have HO := Lib.hid hO
    have HG := Lib.hid hG
    have HS := Lib.hid hS
    have hbs := hB.size
    have hfew := good_few hG
    clear hB hO hG hS
    by_cases hlt : k < R.length
    · obtain ⟨x, hx⟩ : ∃ x, R[k]? = some x := ⟨R[k], List.getElem?_eq_getElem hlt⟩
      obtain ⟨b, off, cap', hv, _, _, _, d0, d1, d2, d3, d4⟩ := rows_cells (HR.out.below HB.out) hx
      cases hv
      have HX := Lib.hid hx
      clear hx
      by_cases hkd : x.k = kind
      · have q1 : (x.k != kind) = false := by simpa using hkd
        have HK := Lib.hid hkd
        clear hkd
        go_wp2_with fail
        have hWB := Lib.hid (((Below.refl wr.heap.size wr).alloc (Nat.le_refl _) (.cells #[.int .i64 x.k, .int .i64 x.f, .int .i64 x.t, .int .i64 x.a, .int .i64 x.b] 169)).alloc (by simp) (.cells #[.int .i64 (max x.f 0), .int .i64 (min x.t 1114111), .int .i64 x.a, .int .i64 x.b] 123))
        have HWO := Lib.hid (owns_stays HO.out.row hWB.out)
        generalize (wr.alloc (.cells #[.int .i64 x.k, .int .i64 x.f, .int .i64 x.t, .int .i64 x.a, .int .i64 x.b] 169)).alloc (.cells #[.int .i64 (max x.f 0), .int .i64 (min x.t 1114111), .int .i64 x.a, .int .i64 x.b] 123) = W at hWB HWO ⊢
        have HWB := Lib.hid (HB.out.trans (hWB.out.mono hbs))
        clear hWB d0 d1 d2 d3 d4
        refine (rest_any u5 S (clamp x) W (rd_of_owns HWO.out) HG.out.ok (by omega)).mono ?_
        rintro e w3 ⟨v2, rfl, h2, hB3⟩
        have HV2 := Lib.hid h2
        have HO3 := Lib.hid (owns_stays HWO.out hB3)
        have HB3 := Lib.hid (below_trans' HWB.out hB3)
        have hrl := restL_length S (clamp x)
        have hws := HB3.out.size
        clear h2 hB3
        obtain ⟨a2, c2, rfl⟩ := slice_of_owns HV2.out.row
        obtain ⟨a5, c5, rfl⟩ := slice_of_owns HO3.out
        go_wp2_with (at_builtin; refine wpList_app_rd _ rfl (.tmp 31) _ _ rfl Esp _ _ _ rfl HO3.out _ _ _ rfl (rd_of_owns HV2.out.row) (spans_one _) (by omega) hws ?_; intro v4 w4 ho4 hg4)
        rw [← List.flatMap_append, ← List.length_append] at ho4
        have HO4 := Lib.hid ho4
        have HB4 := Lib.hid (below_app HB3.out hws HO3.out (Nat.le_refl _) hg4)
        clear ho4 hg4
        refine (sortAny w.heap.size _ v4 _ w4 HO4.out rfl (by rw [List.length_append]; omega)).mono ?_
        rintro e w5 ⟨rfl, T, hp, hs, ho5, hg5⟩
        have hlT : (S ++ restL (clamp x) S).length = T.length := hp.length_eq
        rw [hlT] at ho5
        have HO5 := Lib.hid ho5
        have HB5 := Lib.hid (below_app HB4.out HB4.out.size HO4.out (Nat.le_refl _) hg5)
        have hG5 := good_sorted (rest_dis HG.out (clamp x)) (rest_ok HG.out x) hp hs
        have HS5 := Lib.hid (says_take (S := T) HX.out (fun r => (ansS_perm (rest_dis HG.out (clamp x)) hp r).symm.trans (says_step HG.out HS.out HK.out r)))
        have HG5 := Lib.hid hG5
        clear ho5 hg5 hG5 hp hs hlT
        go_wp2
        go_roundw
        case rel => exact ⟨k + 1, T, by omega, by go_num, HB5.out, HO5.out, HG5.out, HS5.out⟩
        case measure => simp [intOf]; omega
      · have q1 : (x.k != kind) = true := by simpa using hkd
        have HN := Lib.hid (says_take HX.out (says_skip HS.out hkd))
        clear hkd
        go_wp2
        go_roundw
        case rel => exact ⟨k + 1, S, by omega, by go_num, HB.out.alloc hbs _, HO.out.alloc _, HG.out, HN.out⟩
        case measure => simp [intOf]; omega
    · have hkn : k = R.length := by omega
      subst hkn
      have HT := Lib.hid (show R.take R.length = R by simp)
      have hown := HO.out.row
      go_wp2_with fail
      refine (joined_any u5 S wr HO.out.in HG.out.ok (by omega)).mono ?_
      rintro e w3 ⟨v2, rfl, h2, hB3⟩
      have HV2 := Lib.hid (show SpansOwn w3 w.heap.size v2 (joinL S) from owns_mono h2 hbs)
      have HB3 := Lib.hid (below_trans' HB.out hB3)
      clear h2 hB3 hown
      go_wp2
      go_ret
      exact ⟨_, _, rfl, HV2.out, HB3.out, joinL_good HG.out, joinL_says HG.out (by have := HS.out; rw [HT.out] at this; exact this)⟩
end Go.Proofs.YtkeainhjghdfcaaGreat

/- trie.find at numbers. -/
namespace Go.Proofs.YtkeainhjghdfcaaGreat
open Go.RowKit

def ienc1 (n : Int) : List Value := [.int .i64 n]
def pienc (p : Pc Int) : List Value := [.int .i64 p.f, .int .i64 p.t, .int .i64 p.v]
theorem pienc_len (p : Pc Int) : (pienc p).length = 3 := rfl

theorem ret_t2i {p : Int × Int} {a b : Int} (h : p = (a, b)) : Ending.returned (.tuple #[.int .i64 a, .int .i64 b]) = .returned (.tuple #[.int .i64 p.1, .int .i64 p.2]) := by rw [h]

theorem fndP_drop {α : Type} {z : α} {i last : Int} {l : List (Pc α)} {k : Nat} {p : Pc α} (hp : l[k]? = some p) :
    fndP z i (l.drop k) last = if p.f ≤ i ∧ i ≤ p.t then (p.v, min p.t last) else if i < p.f ∧ p.f ≤ last then fndP z i (l.drop (k + 1)) (p.f - 1) else fndP z i (l.drop (k + 1)) last := by
  obtain ⟨h1, h2⟩ := List.getElem?_eq_some_iff.1 hp
  rw [List.drop_eq_getElem_cons h1, h2]
  rfl

set_option maxRecDepth 100000 in
set_option maxHeartbeats 1000000 in
theorem find_int (v : Value) (l : List (Pc Int)) (z i last0 : Int) (w : World) (hR : Rs w.heap.size w pienc 3 v l) (hi : 0 ≤ i) (hb : ∀ p ∈ l, p.f ≤ 4611686018427387904) :
    Calls Tryz.prog 159 #[v, .int .i64 z, .int .i64 i, .int .i64 last0] w fun e w' => e = .returned (.tuple #[.int .i64 (fndP z i l last0).1, .int .i64 (fndP z i l last0).2]) ∧ Below w.heap.size w w' := by
  obtain ⟨a, cap, rfl, hcap, hmax, _, hcells⟩ := hR
  unfold maxLen at hmax
  have HC := Lib.hid hcells
  have HBd := Lib.hid hb
  clear hcells hb
  go_enter Tryz.func159, Tryz.ntmps159
  go_wp2
  go_loopw [3, 11, 14, 18, 35] (fun lv _ iv _ _ wr => ∃ (k : Nat) (last : Int), k ≤ l.length ∧ iv = .int .i64 ((k : Nat) : Int) ∧ lv = .int .i64 last ∧ Below w.heap.size w wr ∧ fndP z i (l.drop k) last = fndP z i l last0) (fun _ _ iv _ _ _ => l.length - (intOf iv).toNat)
  case atStart => exact ⟨0, last0, Nat.zero_le _, rfl, rfl, .refl _ _, rfl⟩
  case round =>
    obtain ⟨k, last, hk, rfl, rfl, hB, hE⟩ := hrel
    have HB := Lib.hid hB
    have HE := Lib.hid hE
    have hbs := hB.size
    clear hB hE
    by_cases hlt : k < l.length
    · obtain ⟨p, hp⟩ : ∃ p, l[k]? = some p := ⟨l[k], List.getElem?_eq_getElem hlt⟩
      obtain ⟨b, off, rfl, hbl, hcq⟩ := HC.out (by omega)
      have d0 : wr.cell? ⟨b, off + k * 3, none⟩ = some (.int .i64 p.f) := cell_later HB.out (flat_cell pienc_len hcq hp 0 rfl)
      have d1 : wr.cell? ⟨b, off + k * 3 + 1, none⟩ = some (.int .i64 p.t) := cell_later HB.out (flat_cell pienc_len hcq hp 1 rfl)
      have d2 : wr.cell? ⟨b, off + k * 3 + 2, none⟩ = some (.int .i64 p.v) := cell_later HB.out (flat_cell pienc_len hcq hp 2 rfl)
      have hpb := HBd.out p (List.mem_of_getElem? hp)
      have HD := Lib.hid (fndP_drop (z := z) (i := i) (last := last) hp)
      clear hcq hp
      by_cases h1 : p.f ≤ i
      · by_cases h2 : i ≤ p.t
        · have HR := Lib.hid (show fndP z i l last0 = (p.v, min p.t last) by rw [← HE.out, HD.out, if_pos ⟨h1, h2⟩])
          go_wp2
          go_quiet (fail)
          go_wp2
          go_ret2
          exact ⟨ret_t2i HR.out, below_dN (HB.out.alloc hbs _) _⟩
        · have HN := Lib.hid (show fndP z i (l.drop (k + 1)) last = fndP z i l last0 by rw [← HE.out, HD.out, if_neg (fun h => h2 h.2), if_neg (fun h => by omega)])
          go_wp2
          go_roundw
          case rel => exact ⟨k + 1, last, by omega, by go_num, rfl, HB.out.alloc hbs _, HN.out⟩
          case measure => simp [intOf]; omega
      · by_cases h2 : p.f ≤ last
        · have HN := Lib.hid (show fndP z i (l.drop (k + 1)) (p.f - 1) = fndP z i l last0 by rw [← HE.out, HD.out, if_neg (fun h => h1 h.1), if_pos ⟨by omega, h2⟩])
          have e1 := IntWalk.i64_in (p.f - 1) (by omega)
          have h3 : i < p.f := by omega
          clear h1
          go_wp2
          go_roundw
          case rel => exact ⟨k + 1, p.f - 1, by omega, by go_num, rfl, HB.out.alloc hbs _, HN.out⟩
          case measure => simp [intOf]; omega
        · have HN := Lib.hid (show fndP z i (l.drop (k + 1)) last = fndP z i l last0 by rw [← HE.out, HD.out, if_neg (fun h => h1 h.1), if_neg (fun h => h2 h.2)])
          have h3 : i < p.f := by omega
          clear h1
          go_wp2
          go_roundw
          case rel => exact ⟨k + 1, last, by omega, by go_num, rfl, HB.out.alloc hbs _, HN.out⟩
          case measure => simp [intOf]; omega
    · have HR := Lib.hid (show fndP z i l last0 = (z, last) by rw [← HE.out, List.drop_of_length_le (by omega)]; rfl)
      go_wp2
      go_ret2
      exact ⟨ret_t2i HR.out, HB.out⟩
end Go.Proofs.YtkeainhjghdfcaaGreat

/- Tries at pairs and at flags: their values, their keys. -/
namespace Go.Proofs.YtkeainhjghdfcaaGreat
open Go.RowKit

abbrev Pr := Int × Int
def penc (x : Pr) : List Value := [.int .i32 x.1, .int .i32 x.2]
def ppenc (p : Pc Pr) : List Value := [.int .i64 p.f, .int .i64 p.t, .int .i32 p.v.1, .int .i32 p.v.2]
theorem ppenc_len (p : Pc Pr) : (ppenc p).length = 4 := rfl
def aggP (x : Pr) : Value := .agg #[.int .i32 x.1, .int .i32 x.2]
def fenc (x : Flg) : List Value := [.bool x.pict, .bool x.wide, .bool x.letter, .bool x.out]
def pfenc (p : Pc Flg) : List Value := [.int .i64 p.f, .int .i64 p.t, .bool p.v.pict, .bool p.v.wide, .bool p.v.letter, .bool p.v.out]
theorem pfenc_len (p : Pc Flg) : (pfenc p).length = 6 := rfl
def aggF (x : Flg) : Value := .agg #[.bool x.pict, .bool x.wide, .bool x.letter, .bool x.out]

theorem range_keep {w w' : World} {b o : Nat} {cs : List Value} (h : w.rangeAt b o cs) (hb : w'.heap[b]? = w.heap[b]?) : w'.rangeAt b o cs := fun j v hv => (World.cell?_of_block (a := ⟨b, o + j, none⟩) hb).trans (h j v hv)
/-- the blocks that the maker turns -/
def Mine (w : World) (tb kb eb : Nat) (v2 : Value) (j : Nat) : Prop := j = tb ∨ j = kb ∨ j = eb ∨ v2.ownBlock = some j ∨ w.heap.size ≤ j
theorem Tryz.laid0 : laidOutB Tryz.prog = true := by kernel_rfl
theorem types_pos : ∃ d, Tryz.prog.types.size = d + 3 := ⟨Tryz.prog.types.size - 3, by have : 3 ≤ Tryz.prog.types.size := of_decide_eq_true (by kernel_rfl); omega⟩
def wfP (x : Pr) : Prop := (Lit.int .i32 x.1).wf = true ∧ (Lit.int .i32 x.2).wf = true
def wfF (_ : Flg) : Prop := True
theorem penc_len (x : Pr) : (penc x).length = 2 := rfl
theorem penc_inj (a b : Pr) (h : penc a = penc b) : a = b := by
  obtain ⟨a1, a2⟩ := a
  obtain ⟨b1, b2⟩ := b
  simp [penc] at h
  rw [h.1, h.2]
theorem fenc_len (x : Flg) : (fenc x).length = 4 := rfl
theorem fenc_inj (a b : Flg) (h : fenc a = fenc b) : a = b := by
  obtain ⟨a1, a2, a3, a4⟩ := a
  obtain ⟨b1, b2, b3, b4⟩ := b
  simp [fenc] at h
  rw [h.1, h.2.1, h.2.2.1, h.2.2.2]
theorem one_i32 : Tryz.prog.cellsOf 21 = 1 := by kernel_rfl
theorem one_bool : Tryz.prog.cellsOf 4 = 1 := by kernel_rfl
theorem isKey_pair (d : Nat) (x : Pr) (hx : wfP x) : IsKey Tryz.prog (d + 2) 125 (penc x) := by
  refine isKey_struct Tryz.underlying125 (by kernel_rfl) (by kernel_rfl) ?_
  intro f hf
  simp only [List.mem_cons, List.not_mem_nil, or_false] at hf
  rcases hf with rfl | rfl
  · show IsKey Tryz.prog (d + 1) 21 (((penc x).drop 0).take (Tryz.prog.cellsOf 21))
    rw [one_i32]
    exact isKey_int Tryz.underlying21 hx.1
  · show IsKey Tryz.prog (d + 1) 21 (((penc x).drop 1).take (Tryz.prog.cellsOf 21))
    rw [one_i32]
    exact isKey_int Tryz.underlying21 hx.2
theorem isKey_flags (d : Nat) (x : Flg) : IsKey Tryz.prog (d + 2) 194 (fenc x) := by
  refine isKey_struct Tryz.underlying194 (by kernel_rfl) (by kernel_rfl) ?_
  intro f hf
  simp only [List.mem_cons, List.not_mem_nil, or_false] at hf
  rcases hf with rfl | rfl | rfl | rfl
  · show IsKey Tryz.prog (d + 1) 4 (((fenc x).drop 0).take (Tryz.prog.cellsOf 4))
    rw [one_bool]
    exact isKey_bool Tryz.underlying4
  · show IsKey Tryz.prog (d + 1) 4 (((fenc x).drop 1).take (Tryz.prog.cellsOf 4))
    rw [one_bool]
    exact isKey_bool Tryz.underlying4
  · show IsKey Tryz.prog (d + 1) 4 (((fenc x).drop 2).take (Tryz.prog.cellsOf 4))
    rw [one_bool]
    exact isKey_bool Tryz.underlying4
  · show IsKey Tryz.prog (d + 1) 4 (((fenc x).drop 3).take (Tryz.prog.cellsOf 4))
    rw [one_bool]
    exact isKey_bool Tryz.underlying4
theorem keyA_pair : KeyE Tryz.prog 214 (arrK penc) (okL wfP) :=
  keyArr (eT := 125) Tryz.laid0 (of_decide_eq_true (by kernel_rfl)) (of_decide_eq_true (by kernel_rfl)) (by kernel_rfl) (by kernel_rfl) (by kernel_rfl) (by kernel_rfl) penc_len (by decide) penc_inj
    (fun x hx => by obtain ⟨d, hd⟩ := types_pos; rw [hd]; exact isKey_pair (d + 1) x hx)
theorem keyA_flags : KeyE Tryz.prog 282 (arrK fenc) (okL wfF) :=
  keyArr (eT := 194) Tryz.laid0 (of_decide_eq_true (by kernel_rfl)) (of_decide_eq_true (by kernel_rfl)) (by kernel_rfl) (by kernel_rfl) (by kernel_rfl) (by kernel_rfl) fenc_len (by decide) fenc_inj
    (fun x _ => by obtain ⟨d, hd⟩ := types_pos; rw [hd]; exact isKey_flags (d + 1) x)
theorem keyV_pair : KeyE Tryz.prog 125 aggP wfP where
  K := Maps.Keyed.of_law (deep_law_gate Tryz.laid0 (of_decide_eq_true (by kernel_rfl)) (of_decide_eq_true (by kernel_rfl)) (by kernel_rfl) (by rw [Tryz.underlying125]))
  lit x hx := by
    obtain ⟨d, hd⟩ := types_pos
    exact keyOf_agg (cs := penc x) (by rw [Tryz.underlying125]) (by kernel_rfl) (by kernel_rfl) (by rw [hd]; exact isKey_pair (d + 2) x hx)
  inj a b h := by
    injection h with h
    exact penc_inj a b (by simpa [penc] using h)
theorem keyV_flags : KeyE Tryz.prog 194 aggF wfF where
  K := Maps.Keyed.of_law (deep_law_gate Tryz.laid0 (of_decide_eq_true (by kernel_rfl)) (of_decide_eq_true (by kernel_rfl)) (by kernel_rfl) (by rw [Tryz.underlying194]))
  lit x _ := by
    obtain ⟨d, hd⟩ := types_pos
    exact keyOf_agg (cs := fenc x) (by rw [Tryz.underlying194]) (by kernel_rfl) (by kernel_rfl) (by rw [hd]; exact isKey_flags (d + 2) x)
  inj a b h := by
    injection h with h
    exact fenc_inj a b (by simpa [fenc] using h)
theorem Earr_pair : ElemT Tryz.prog 203 214 256 1024 := elemT_of (by kernel_rfl) (z := .agg Tryz.zeroCells214) (by kernel_rfl) (by kernel_rfl) (by decide) (by decide)
theorem Earr_flags : ElemT Tryz.prog 271 282 512 512 := elemT_of (by kernel_rfl) (z := .agg Tryz.zeroCells282) (by kernel_rfl) (by kernel_rfl) (by decide) (by decide)
abbrev MkP := MkAt penc 2 214 3 aggP wfP
abbrev MkF := MkAt fenc 4 282 3 aggF wfF
theorem arrE_penc (L : List Pr) : ∀ u ∈ arrE penc L, u.oneCell' = true := by
  intro u hu
  obtain ⟨x, _, hx⟩ := List.mem_flatMap.1 hu
  simp [penc] at hx
  rcases hx with rfl | rfl <;> rfl
theorem arrE_fenc (L : List Flg) : ∀ u ∈ arrE fenc L, u.oneCell' = true := by
  intro u hu
  obtain ⟨x, _, hx⟩ := List.mem_flatMap.1 hu
  simp [fenc] at hx
  rcases hx with rfl | rfl | rfl | rfl <;> rfl
theorem arrK_sizeP {L : List Pr} (h : L.length = 128) : (L.flatMap penc).toArray.size = 256 := by have := flat_len penc_len L; simp at this ⊢; omega
theorem arrK_sizeF {L : List Flg} (h : L.length = 128) : (L.flatMap fenc).toArray.size = 512 := by have := flat_len fenc_len L; simp at this ⊢; omega
theorem zeroP : Tryz.zeroCells214 = ((List.replicate 128 ((0, 0) : Pr)).flatMap penc).toArray := by
  refine (Array.toList_inj.1 ?_)
  kernel_rfl
theorem zeroF : Tryz.zeroCells282 = ((List.replicate 128 noFlg).flatMap fenc).toArray := by
  refine (Array.toList_inj.1 ?_)
  kernel_rfl
end Go.Proofs.YtkeainhjghdfcaaGreat

/- The state in which a trie of values in boxes is built. No program is named here. -/
namespace Go.Proofs.YtkeainhjghdfcaaGreat
open Go.RowKit

theorem setCells_grown (g : Nat) : ∀ (vs : List Value) (o : Nat) (w w0 : World), w0.grownBy w (some g) → w0.grownBy (w.setCells g o vs) (some g)
  | [], _, _, _, h => h
  | v :: r, o, w, w0, h => setCells_grown g r (o + 1) _ _ ⟨h.os, h.tape, h.output, Nat.le_trans h.size (by simp), fun k hk hne => (Below.heap_setCell _ _ _ _ (fun e => hne (by rw [e]))).trans (h.block k hk hne)⟩
/-- only the block b is another -/
theorem Kept.grown {w w' : World} {b : Nat} (h : Kept (fun j => j = b) w w') : w.grownBy w' (some b) := ⟨h.os, h.tape, h.output, h.size, fun j hj hne => h.block j hj (fun e => hne (by rw [e]))⟩

section
variable {α : Type} {enc : α → List Value} {sz : Nat} {aT iT T : TypeId} {tv : α → Value} {okv : α → Prop}
structure BSx (enc : α → List Value) (sz : Nat) (aT iT T : TypeId) (tv : α → Value) (okv : α → Prop) (w : World) (vb : Nat) (g : Int → α) (j : Nat) (x : α) (upto i : Int) (wr : World) (v1 v2 : Value) (ks : List Nat) (bl : List (List α)) : Prop where
  mkr : MkAt enc sz aT iT tv okv wr w.heap.size (w.heap.size + 4) w.heap.size (w.heap.size + 3) (w.heap.size + 1) (w.heap.size + 2) v1 v2 ks bl
  is : TrieIs g j ks bl
  val : Val g okv x upto i
  bel : Below w.heap.size w wr
  big : w.heap.size + 4 ≤ vb
  box : wr.heap[vb]? = some (.cells (enc x).toArray T (0, 0))
  n1 : v1.ownBlock ≠ some vb
  n2 : v2.ownBlock ≠ some vb
variable {w : World} {vb : Nat} {g : Int → α} {j : Nat} {x x' : α} {upto i upto' i' : Int} {wr wr' : World} {v1 v2 : Value} {ks : List Nat} {bl : List (List α)}
theorem BSx.lt (h : BSx enc sz aT iT T tv okv w vb g j x upto i wr v1 v2 ks bl) : vb < wr.heap.size := row_len h.box
theorem BSx.big' (h : BSx enc sz aT iT T tv okv w vb g j x upto i wr v1 v2 ks bl) : w.heap.size + 4 ≤ wr.heap.size := Nat.le_trans h.big (Nat.le_of_lt h.lt)
theorem BSx.later (h : BSx enc sz aT iT T tv okv w vb g j x upto i wr v1 v2 ks bl) (hb : Below wr.heap.size wr wr') (hv : Val g okv x upto' i') : BSx enc sz aT iT T tv okv w vb g j x upto' i' wr' v1 v2 ks bl :=
  ⟨h.mkr.below hb, h.is, hv, below_trans' h.bel hb, h.big, (hb.block _ h.lt).trans h.box, h.n1, h.n2⟩
theorem BSx.at (h : BSx enc sz aT iT T tv okv w vb g j x upto i wr v1 v2 ks bl) (hi : i ≤ i') : BSx enc sz aT iT T tv okv w vb g j x upto i' wr v1 v2 ks bl :=
  ⟨h.mkr, h.is, h.val.later hi, h.bel, h.big, h.box, h.n1, h.n2⟩
/-- another block that is ours is another -/
theorem BSx.other {ab : Nat} (h : BSx enc sz aT iT T tv okv w vb g j x upto i wr v1 v2 ks bl) (hk : wr.grownBy wr' (some ab)) (ha : vb < ab) (h1 : v1.ownBlock ≠ some ab) (h2 : v2.ownBlock ≠ some ab) : BSx enc sz aT iT T tv okv w vb g j x upto i wr' v1 v2 ks bl := by
  have hb := h.big
  refine ⟨⟨h.mkr.b.grown hk (fun e => by injection e; omega) (fun e => by injection e; omega) (.inr h1) (.inr h2), h.mkr.kn.grown hk (fun e => by injection e; omega), h.mkr.ev.grown hk (fun e => by injection e; omega)⟩, h.is, h.val, ?_, h.big, (hk.block vb h.lt (fun e => by injection e; omega)).trans h.box, h.n1, h.n2⟩
  exact h.bel.trans ⟨hk.os, hk.tape, hk.output, hk.size, fun k hkl => hk.block k (Nat.lt_of_lt_of_le hkl h.bel.size) (fun e => by injection e; omega)⟩
/-- the value in the box is another -/
theorem BSx.put (h : BSx enc sz aT iT T tv okv w vb g j x upto i wr v1 v2 ks bl) (hk : wr.grownBy wr' (some vb)) (hx : wr'.heap[vb]? = some (.cells (enc x').toArray T (0, 0))) (hv : Val g okv x' upto' i') : BSx enc sz aT iT T tv okv w vb g j x' upto' i' wr' v1 v2 ks bl := by
  have hb := h.big
  refine ⟨⟨h.mkr.b.grown hk (fun e => by injection e; omega) (fun e => by injection e; omega) (.inr h.n1) (.inr h.n2), h.mkr.kn.grown hk (fun e => by injection e; omega), h.mkr.ev.grown hk (fun e => by injection e; omega)⟩, h.is, hv, ?_, h.big, hx, h.n1, h.n2⟩
  exact h.bel.trans ⟨hk.os, hk.tape, hk.output, hk.size, fun k hkl => hk.block k (Nat.lt_of_lt_of_le hkl h.bel.size) (fun e => by injection e; omega)⟩
theorem BSx.push {r cap k : Nat} {L : List α} (h : BSx enc sz aT iT T tv okv w vb g j x upto i wr v1 v2 ks bl) (hg : wr.grownBy wr' v1.ownBlock) (ho : wr'.ownsRow (w.heap.size + 4) iT 1 (.slice (some ⟨r, 0, none⟩) (ks.length + 1) cap) (ks.length + 1) (ks.map natV ++ [natV k]))
    (hf : v1.ownBlock = some r ∨ wr.heap.size ≤ r) (hv : Val g okv x upto' i') (hk : bl[k]? = some L) (hL : ∀ i : Nat, i < 128 → L[i]? = some (g (128 * (j : Int) + i))) :
    BSx enc sz aT iT T tv okv w vb g (j + 1) x upto' i' (wr'.setCell ⟨w.heap.size, 1, none⟩ (.slice (some ⟨r, 0, none⟩) (ks.length + 1) cap)) (.slice (some ⟨r, 0, none⟩) (ks.length + 1) cap) v2 (ks ++ [k]) bl := by
  have hs := hg.size
  have hb := h.big
  have hl := h.lt
  refine ⟨h.mkr.push1 hg ho hf, h.is.push hk hL, hv, (h.bel.grown hg h.bel.size (fun q hq => Nat.le_trans (by omega) (h.mkr.b.o1.lt q hq).1)).setCell (Nat.le_refl _) _, h.big, ?_, ?_, h.n2⟩
  · exact (Below.heap_setCell _ _ _ _ (by simp; omega)).trans ((hg.block vb hl (fun e => h.n1 e.symm)).trans h.box)
  · intro e
    have e : r = vb := by simpa [Value.ownBlock] using e
    rcases hf with hf | hf
    · exact h.n1 (by rw [hf, e])
    · omega
theorem BSx.facts (h : BSx enc sz aT iT T tv okv w vb g j x upto i wr v1 v2 ks bl) (hg : wr.grownBy wr' v1.ownBlock) : wr'.cell? ⟨w.heap.size, 1, none⟩ = some v1 ∧ wr'.frozen? ⟨w.heap.size, 1, none⟩ = false := by
  have hn : some w.heap.size ≠ v1.ownBlock := fun e => by have := (h.mkr.b.o1.lt _ e.symm).1; omega
  exact ⟨hg.cell h.mkr.b.t1 hn, (World.frozen?_of_block (a := ⟨w.heap.size, 1, none⟩) (hg.block _ (World.block_lt_of_cell? _ _ h.mkr.b.t1) hn)).trans h.mkr.b.f1⟩
theorem BSx.kept (h : BSx enc sz aT iT T tv okv w vb g j x upto i wr v1 v2 ks bl) (hk : Kept (Mine wr w.heap.size (w.heap.size + 1) (w.heap.size + 2) v2) wr wr') : Below w.heap.size w wr' :=
  h.bel.trans (hk.below h.bel.size (fun q hq => by
    rcases hq with hq | hq | hq | hq | hq
    · omega
    · omega
    · omega
    · have := (h.mkr.b.o2.lt q hq).1; omega
    · have := h.big'; omega))
/-- behind a call of place or plain -/
theorem BSx.called {v2' : Value} {bl' : List (List α)} (h : BSx enc sz aT iT T tv okv w vb g j x upto i wr v1 v2 ks bl) (hk : Kept (Mine wr w.heap.size (w.heap.size + 1) (w.heap.size + 2) v2) wr wr')
    (hM : MkAt enc sz aT iT tv okv wr' w.heap.size (w.heap.size + 4) w.heap.size (w.heap.size + 3) (w.heap.size + 1) (w.heap.size + 2) v1 v2' ks bl') (hold : ∀ (k : Nat) (M : List α), bl[k]? = some M → bl'[k]? = some M)
    (hown : v2'.ownBlock = v2.ownBlock ∨ ∃ g, v2'.ownBlock = some g ∧ wr.heap.size ≤ g) : BSx enc sz aT iT T tv okv w vb g j x upto i wr' v1 v2' ks bl' := by
  have hb := h.big
  have hl := h.lt
  refine ⟨hM, h.is.more hold, h.val, h.kept hk, h.big, (hk.block vb hl ?_).trans h.box, h.n1, ?_⟩
  · rintro (h1 | h1 | h1 | h1 | h1)
    · omega
    · omega
    · omega
    · exact h.n2 h1
    · omega
  · intro e
    rcases hown with h1 | ⟨q, h1, h2⟩
    · exact h.n2 (h1 ▸ e)
    · rw [h1] at e; injection e; omega
end
/-- a box filled -/
theorem box_put {g : Nat} {T : TypeId} {w : World} {cs : Array Value} (vs : List Value) (h : w.heap[g]? = some (.cells cs T (0, 0))) (hl : cs.size = vs.length) : (w.setCells g 0 vs).heap[g]? = some (.cells vs.toArray T (0, 0)) := by
  rw [row_setCells g T vs 0 w cs h]
  have : setArr cs.toList.toArray 0 vs = (cs.toList.take 0 ++ vs ++ cs.toList.drop (0 + vs.length)).toArray := setArr_eq vs 0 cs.toList (by simp [hl])
  rw [show setArr cs 0 vs = setArr cs.toList.toArray 0 vs by simp, this]
  simp [hl]
end Go.Proofs.YtkeainhjghdfcaaGreat

/- trie.Get at numbers. -/
namespace Go.Proofs.YtkeainhjghdfcaaGreat
open Go.RowKit

set_option maxRecDepth 100000 in
set_option maxHeartbeats 1000000 in
theorem get_int (g : Int → Int) (B tb : Nat) (i : Int) (w : World) (h : TrieAt ienc1 1 g B w tb) :
    Calls Tryz.prog 169 #[.pointer (some ⟨tb, 0, none⟩), .int .i64 i] w fun e w' => e = .returned (.int .i64 (if 0 ≤ i ∧ i < 1114112 then g i else 0)) ∧ ∃ n, w' = w.drewN n := by
  have h0 : w.cell? ⟨tb, 0, none⟩ = some (.int .i64 1114112) := let ⟨_, _, _, _, _, h0, _⟩ := h; h0
  by_cases hi : 0 ≤ i ∧ i < 1114112
  · rw [if_pos hi]
    obtain ⟨m, r, hm, hr, rfl⟩ : ∃ m r : Nat, m < 8704 ∧ r < 128 ∧ i = 128 * (m : Int) + r := ⟨(i / 128).toNat, (i % 128).toNat, by omega, by omega, by omega⟩
    obtain ⟨b1, o1, n1, c1, b2, o2, n2, c2, k, _, h1, h2, h3, h4, h5, h6⟩ := trieAt_cells (enc := ienc1) (sz := 1) (fun n => rfl) h hm hr
    have h7 := h6 0 _ rfl
    generalize g (128 * (m : Int) + r) = x at h7 ⊢
    clear h6 h
    have q1 : decide (128 * (m : Int) + (r : Int) < 0) = false := by rw [decide_eq_false_iff_not]; omega
    have q2 : decide (128 * (m : Int) + (r : Int) ≥ 1114112) = false := by rw [decide_eq_false_iff_not]; omega
    have hq : (128 * (m : Int) + (r : Int)).tdiv 128 = m := by rw [Int.tdiv_eq_ediv_of_nonneg (by omega)]; omega
    have hr' : (128 * (m : Int) + (r : Int)).tmod 128 = r := by rw [Int.tmod_eq_emod_of_nonneg (by omega)]; omega
    clear hi
    have e1 := IntWalk.i64_in (m : Int) (by omega)
    have e2 := IntWalk.i64_in (r : Int) (by omega)
    have p1 : ((m : Nat) : Int) < (n1 : Int) := by omega
    have p2 : ((k : Nat) : Int) < (n2 : Int) := by omega
    have p3 : ((r : Nat) : Int) < 128 := by omega
    rw [Nat.mul_one, Nat.mul_one, Nat.add_zero] at h7
    go_enter Tryz.func169, Tryz.ntmps169
    go_wp2_with fail
    refine wp_region_quiet_lit (by kernel_rfl) (by kernel_rfl) ?_
    repeat (quiet_step (fail))
    refine wpQuiet_nil ?_
    rintro w' ⟨nq, rfl⟩
    go_wp2_with fail
    go_ret
    exact ⟨rfl, nq, rfl⟩
  · rw [if_neg hi]
    by_cases hn : i < 0
    · clear hi
      go_enter Tryz.func169, Tryz.ntmps169
      go_wp2_with fail
      go_ret
      exact ⟨rfl, 0, rfl⟩
    · have q1 : decide (i < 0) = false := by rw [decide_eq_false_iff_not]; exact hn
      have q2 : i ≥ 1114112 := by omega
      clear hi hn
      go_enter Tryz.func169, Tryz.ntmps169
      go_wp2_with fail
      go_ret
      exact ⟨rfl, 0, rfl⟩
end Go.Proofs.YtkeainhjghdfcaaGreat

/- api.Rows: the rows that are given. -/
namespace Go.Proofs.YtkeainhjghdfcaaGreat
open Go.RowKit

/-- what a literal of rows holds, read off the code -/
def rwOf (o : Oper) : Option Rw := match o.op with
  | .build _ parts => match parts.toList with
    | [(_, .const (.int _ k)), (_, .const (.int _ f)), (_, .const (.int _ t)), (_, .const (.int _ a)), (_, .const (.int _ b))] => some ⟨k, f, t, a, b⟩
    | _ => none
  | _ => none
def opsOf : Code → List Oper
  | .region _ o _ => o.toList
  | .seq a b => opsOf a ++ opsOf b
  | .block _ b => opsOf b
  | .scope b => opsOf b
  | _ => []
def rowsFn (fn : Func) : List Rw := match fn.body with
  | some c => (opsOf c).filterMap rwOf
  | none => []
/-- builds one behind the other -/
def runBuilds (P : Program) : List Oper → Act → Option Act
  | [], a => some a
  | o :: l, a => match o.op, o.guard with
    | .build t parts, none => match P.built t (parts.map fun (i, x) => (i, a.eval x)).toList with
      | some cs => runBuilds P l (a.put o.dst (.agg cs))
      | none => none
    | _, _ => none
theorem wpList_builds {P : Program} {w : World} {ops : Array Oper} {Q : Exit → Act → World → Prop} {rest : List Oper} : ∀ (l : List Oper) (a a' : Act), runBuilds P l a = some a' → wpList P ops Q rest a' w → wpList P ops Q (l ++ rest) a w := by
  intro l
  induction l with
  | nil =>
    intro a a' h k
    unfold runBuilds at h
    injection h with h
    rw [h]; exact k
  | cons o l ih =>
    intro a a' h k
    unfold runBuilds at h
    split at h
    · rename_i t parts ho hg
      split at h
      · rename_i cs hcs
        exact wpList_buildTo hg t parts ho _ rfl cs hcs (ih _ _ h k)
      · cases h
    · cases h
def aggR (x : Rw) : Value := .agg #[.int .i64 x.k, .int .i64 x.f, .int .i64 x.t, .int .i64 x.a, .int .i64 x.b]
theorem flat_aggR : ∀ R : List Rw, ((R.map aggR).flatMap fun v => v.cells.toList) = R.flatMap renc
  | [] => rfl
  | x :: R => by rw [List.map_cons, List.flatMap_cons, List.flatMap_cons, flat_aggR R]; rfl
theorem wpList_rowsR {P : Program} {w : World} {ops : Array Oper} {Q : Exit → Act → World → Prop} {l : List Oper} (n : Nat) (R : List Rw) {a : Act} {bs az : Oper} (hl : l.drop n = [bs, az]) (v0 : Value) (hb : runBuilds P (l.take n) a = some ⟨(v0 :: (R.map aggR ++ [undef])).toArray, []⟩) {t e : TypeId} {parts : Array (Nat × Operand)}
    (hn : R.length = n) (hbs : bs.op = .buildSlice t n parts) (hg : bs.guard = none) (hd : bs.dst = some (n + 1)) (has : az.op = .assign (.tmp (n + 1))) (hag : az.guard = none) (hd0 : az.dst = some 0) (hu : P.underlying t = some (.slice e))
    (hsz : (P.info? e).map (·.size) = some 5) (hz : ((P.info? e).bind (·.zero)).isSome = true) (hpos : 0 < n) (hsm : n ≤ 1000)
    (hparts : parts.toList = (List.range n).map fun i => (i, Operand.tmp (i + 1)))
    (h : ∀ a'' : Act, a''.tmps.getD 0 undef = .slice (some ⟨w.heap.size, 0, none⟩) n n → a''.defers = [] → Q .normal a'' (w.alloc (.cells (R.flatMap renc).toArray e))) : wpList P ops Q l a w := by
  subst hn
  have hlen : (R.map aggR).length = R.length := by simp
  rw [← List.take_append_drop R.length l, hl]
  refine wpList_builds _ _ _ hb ?_
  have key := @Great.wpList_buildRows
  refine Great.wpList_buildRows (P := P) (ops := ops) (rest := [az]) (Q := Q) (w := w) hg t e parts 5 (R.map aggR) (by rw [hlen]; exact hbs) (· + 1) w.heap.size rfl (some (R.length + 1)) hd hu hsz hz (by decide) (by rw [hlen]; exact hpos) (by rw [hlen]; omega) (by rw [hlen]; exact hparts) ?_ ?_ ?_
  · intro v hv
    obtain ⟨x, _, rfl⟩ := List.mem_map.1 hv
    rfl
  · intro i hi
    show ((v0 :: (R.map aggR ++ [undef])).toArray).getD (i + 1) undef = (R.map aggR)[i]
    simp [List.getElem?_append_left hi, List.getElem?_eq_getElem hi]
  · rw [flat_aggR, hlen]
    refine wpList_plain hag fun K hK => ?_
    unfold Oper.wp execOp
    have hev : (Act.put ⟨(v0 :: (R.map aggR ++ [undef])).toArray, []⟩ (some (R.length + 1)) (.slice (some ⟨w.heap.size, 0, none⟩) R.length R.length)).eval (.tmp (R.length + 1)) = .slice (some ⟨w.heap.size, 0, none⟩) R.length R.length := by
      simp [Act.put, Act.eval]
    simp only [has, hev]
    refine hK _ _ (wpList_nil ?_)
    rw [hd0]
    exact h _ (by simp [Act.put]) rfl
/-- rows that are handed back -/
def LitPost (R : List Rw) (w : World) (e : Ending) (w' : World) : Prop := ∃ v, e = .returned v ∧ Below w.heap.size w w' ∧ RowsIn w' v R
theorem litPost (w : World) (R : List Rw) (n : Nat) (hn : n = R.length) (hm : n ≤ maxLen) : LitPost R w (.returned (.slice (some ⟨w.heap.size, 0, none⟩) n n)) (w.alloc (.cells (R.flatMap renc).toArray 169)) :=
  ⟨_, rfl, (Below.refl w.heap.size w).alloc (Nat.le_refl _) _, rs_lit renc_len w _ _ R n hn hm (by simp)⟩
end Go.Proofs.YtkeainhjghdfcaaGreat
