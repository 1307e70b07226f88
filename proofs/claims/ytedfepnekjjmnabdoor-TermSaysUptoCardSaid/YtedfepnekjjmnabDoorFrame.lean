/-
  From a walk to a law's statement: what every law of the seat shares. How a term that came in reads; the arguments read behind the call as they did. No condition.
-/
import Derived.Test.YtedfepnekjjmnabDoorRow
import Derived.ProofKit
import Derived.OpenShut
import Derived.JoinedCond
import Derived.Carry
import Derived.Deep.Slices
namespace Go.Proofs.YtedfepnekjjmnabDoor
open Go.ChangeShapes Go.WideShapes Go.ChangeAt Go.RowKit
set_option linter.unusedSimpArgs false
set_option linter.unusedVariables false

theorem own : ownKnob Tryd.prog.godebug = none := by kernel_rfl
theorem laidOut : laidOutB Tryd.prog = true := by kernel_rfl
theorem cellsTerm : Tryd.prog.cellsOf 24 = 4 := by kernel_rfl
theorem cellsInt : Tryd.prog.cellsOf 3 = 1 := by kernel_rfl

theorem bulkAll_mem {H : Type} {d : DataW H} {l : List (DataW H)} (h : d ∈ l) : Rows.uptoBulk d ≤ Rows.uptoBulkAll l := by
  induction l with
  | nil => cases h
  | cons x r ih =>
    simp only [Rows.uptoBulkAll]
    rcases List.mem_cons.1 h with rfl | h
    · omega
    · have := ih h; omega
theorem bulkAll_append {H : Type} (l r : List (DataW H)) : Rows.uptoBulkAll (l ++ r) = Rows.uptoBulkAll l + Rows.uptoBulkAll r := by
  induction l with
  | nil => simp [Rows.uptoBulkAll]
  | cons x l ih => simp only [List.cons_append, Rows.uptoBulkAll, ih]; omega
theorem small_bound {H : Type} {l : List (DataW H)} (hk : Rows.uptoSmall H l = true) : Rows.uptoBulkAll l ≤ 1048576 := of_decide_eq_true hk

section
variable {H : Type} {enc : TypeId × Value → H} {W : World} {base : Nat} {sp : Nat → Bool} {held : Bool}

theorem add_at (b off i j : Nat) : ((⟨b, off, none⟩ : Addr).add (i * 4)).add j = ⟨b, off + i * 4 + j, none⟩ := by
  unfold Addr.add
  by_cases h1 : i * 4 = 0 <;> by_cases h2 : j = 0 <;> simp [h1, h2]

/-- The fields of the terms' type. -/
theorem under_term : ∃ f0 f1 f2 f3 : Field, Tryd.prog.underlying 24 = some (.struct #[f0, f1, f2, f3]) ∧ f0.type = 3 ∧ f0.offset = 0 ∧ f1.type = 3 ∧ f1.offset = 1 ∧ f2.type = 9 ∧ f2.offset = 2 ∧ f3.type = 22 ∧ f3.offset = 3 :=
  ⟨_, _, _, _, by rw [Tryd.underlying24], rfl, rfl, rfl, rfl, rfl, rfl, rfl, rfl⟩

theorem choose_list {α : Type} {p : Nat → α → Prop} (n : Nat) (h : ∀ i, i < n → ∃ x, p i x) : ∃ l : List α, l.length = n ∧ ∀ i (hi : i < l.length), p i l[i] := by
  induction n with
  | zero => exact ⟨[], rfl, fun i hi => by cases hi⟩
  | succ n ih =>
    obtain ⟨l, hl, hp⟩ := ih fun i hi => h i (by omega)
    obtain ⟨x, hx⟩ := h n (by omega)
    refine ⟨l ++ [x], by simp [hl], fun i hi => ?_⟩
    by_cases hlt : i < l.length
    · rw [List.getElem_append_left hlt]; exact hp i hlt
    · have : i = l.length := by simp at hi; omega
      subst this
      rw [List.getElem_append_right (Nat.le_refl _)]
      simpa [hl] using hx

theorem bulk_list {H : Type} : ∀ (ts : List T) (ds : List (DataW H)), ts.length = ds.length → (∀ i (h1 : i < ts.length) (h2 : i < ds.length), bulkL [ts[i]] ≤ Rows.uptoBulk ds[i]) → bulkL ts ≤ Rows.uptoBulkAll ds
  | [], _, _, _ => by simp [bulkL]
  | t :: ts, [], h, _ => by simp at h
  | t :: ts, d :: ds, h, hp => by
    have h0 := hp 0 (by simp) (by simp)
    have := bulk_list ts ds (by simpa using h) fun i h1 h2 => hp (i + 1) (by simpa using h1) (by simpa using h2)
    simp only [List.getElem_cons_zero] at h0
    have e : bulkL (t :: ts) = bulkL [t] + bulkL ts := bulkL_append [t] ts
    rw [e, Rows.uptoBulkAll]
    omega

set_option maxRecDepth 100000 in
/-- A term's cells that read as data are a term's. -/
theorem term_of_trod : ∀ (fuel : Nat) (cs : List Value) (x : DataW H × List MemPlace), DataW.trod enc Tryd.prog W base sp held fuel 24 cs = some x →
    ∃ (t : T) (a : Option Addr) (cap : Nat), cs = [.int .i64 t.kind, .int .i64 t.n, .string t.name, .slice a t.args.length cap] ∧ CapOk a t.args.length cap ∧ RTs (fun b => b < W.heap.size) W t.args a 0 ∧ bulkL [t] ≤ Rows.uptoBulk x.1 := by
  intro fuel
  induction fuel using Nat.strongRecOn with
  | _ fuel ih =>
    intro cs x h
    obtain ⟨f0, f1, f2, f3, hs, t0, o0, t1, o1, t2, o2, t3, o3⟩ := under_term
    obtain ⟨xs, n, rfl, rfl, hl, hlen, hf⟩ := DataW.trod_struct hs h
    rw [cellsTerm] at hl
    match xs, hlen, cs, hl with
    | [y0, y1, y2, y3], _, [v0, v1, v2, v3], _ =>
      have g0 := hf 0 f0 rfl
      have g1 := hf 1 f1 rfl
      have g2 := hf 2 f2 rfl
      have g3 := hf 3 f3 rfl
      have c9 : Tryd.prog.cellsOf 9 = 1 := by kernel_rfl
      have c27 : Tryd.prog.cellsOf 22 = 1 := by kernel_rfl
      simp [o0, o1, o2, o3, t0, t1, t2, t3, cellsInt, c9, c27] at g0 g1 g2 g3
      obtain ⟨k, hv0, rfl, wk⟩ := DataW.trod_int Tryd.underlying3 g0
      obtain ⟨m, hv1, rfl, wm⟩ := DataW.trod_int Tryd.underlying3 g1
      obtain ⟨s, hv2, rfl, ws⟩ := DataW.trod_string Tryd.underlying9 g2
      simp only [List.cons.injEq, and_true] at hv0 hv1 hv2
      subst hv0 hv1 hv2
      have hss : s.data.toList.length = s.size := by rw [Array.length_toList]; rfl
      rcases DataW.trod_slice Tryd.underlying22 g3 with ⟨hv3, rfl⟩ | ⟨a, len, cap, elems, rest, n', rfl, hv3, rfl, hb, hlc, hcm, hel, hget, -, -⟩
      · simp only [List.cons.injEq, and_true] at hv3
        subst hv3
        refine ⟨⟨k, m, s, []⟩, none, 0, rfl, ⟨Nat.le_refl _, fun _ => rfl⟩, by simp [RTs], ?_⟩
        simp only [bulkL, Rows.uptoBulk, Rows.uptoBulkAll, List.map_cons, List.map_nil]
        omega
      · simp only [List.cons.injEq, and_true] at hv3
        subst hv3
        have key : ∀ i, i < len → ∃ t : T, ∃ (a' : Option Addr) (cap' : Nat) (cs' : List Value) (hi : i < elems.length), W.cells? base (a.add (i * 4)) 4 = some cs' ∧ cs' = [.int .i64 t.kind, .int .i64 t.n, .string t.name, .slice a' t.args.length cap'] ∧
            CapOk a' t.args.length cap' ∧ RTs (fun b => b < W.heap.size) W t.args a' 0 ∧ bulkL [t] ≤ Rows.uptoBulk (elems[i]).1 := by
          intro i hi
          have h1 := hget i hi
          rw [cellsTerm, List.getElem?_eq_getElem (by omega)] at h1
          obtain ⟨cs', hc, ht⟩ := Option.bind_eq_some_iff.1 h1
          obtain ⟨t, a', cap', e, h2, h3, h4⟩ := ih n' (by omega) cs' _ ht
          exact ⟨t, a', cap', cs', by omega, hc, e, h2, h3, h4⟩
        obtain ⟨ts, hts, hp⟩ := choose_list len key
        subst hts
        refine ⟨⟨k, m, s, ts⟩, some a, cap, rfl, ⟨hlc, by simp⟩, RTs_of _ _ _ _ _ fun j hj => ?_, ?_⟩
        · obtain ⟨a', cap', cs', _, hc, rfl, h2, h3, _⟩ := hp j hj
          obtain ⟨b, off, spot⟩ := a
          have hspot : spot = none := by
            obtain ⟨_, _, cs0, _, hc0, rfl, _⟩ := hp 0 (by omega)
            have h0 := (World.cells?_some hc0).2.2 0 (by omega)
            simpa [Addr.add] using World.cell?_spot h0
          subst hspot
          obtain ⟨_, _, hcell⟩ := World.cells?_some hc
          have q0 := hcell 0 (by omega)
          have q1 := hcell 1 (by omega)
          have q2 := hcell 2 (by omega)
          have q3 := hcell 3 (by omega)
          rw [add_at] at q0 q1 q2 q3
          rw [Nat.zero_add]
          exact ⟨b, off, a', cap', rfl, World.block_lt_of_cell? W _ q0, q0, q1, q2, q3, h2, h3⟩
        · have hbl := bulk_list ts (elems.map (·.1)) (by simp [hel]) fun i h1 h2 => by
            obtain ⟨_, _, _, _, _, _, _, _, h4⟩ := hp i h1
            simpa using h4
          simp only [bulkL, Rows.uptoBulk, Rows.uptoBulkAll, List.map_cons, List.map_nil]
          omega

set_option maxRecDepth 100000 in
/-- An argument that is a term. -/
theorem open_term {v : Value} {d : DataW H} {p : List MemPlace} {r : Reach} (hok : Value.okWide Tryd.prog W r base 24 v) (h : DataW.Trod enc Tryd.prog W 0 sp held 24 v d p) :
    ∃ t, RT (fun b => b < W.heap.size) W t v ∧ bulkL [t] ≤ Rows.uptoBulk d := by
  obtain ⟨fuel, hf⟩ := h
  obtain ⟨t, a, cap, e, h1, h2, h3⟩ := term_of_trod fuel _ _ hf
  obtain ⟨f0, f1, f2, f3, hs, -⟩ := under_term
  have : ∃ cs, v = .agg cs := by
    simp only [Value.okWide, hs] at hok
    obtain ⟨cs, rfl, _⟩ := hok
    exact ⟨cs, rfl⟩
  obtain ⟨cs, rfl⟩ := this
  refine ⟨t, ⟨a, cap, ?_, h1, h2⟩, h3⟩
  simp only [Value.cells] at e
  rw [← e]

set_option maxRecDepth 100000 in
/-- A slice's cell that reads as data is a slice of terms. -/
theorem terms_of_trod (fuel : Nat) (cs : List Value) (x : DataW H × List MemPlace) (g3 : DataW.trod enc Tryd.prog W base sp held fuel 22 cs = some x) :
    ∃ (ts : List T) (v : Value), cs = [v] ∧ RSl (fun b => b < W.heap.size) W ts v ∧ bulkL ts ≤ Rows.uptoBulk x.1 := by
  rcases DataW.trod_slice Tryd.underlying22 g3 with ⟨rfl, rfl⟩ | ⟨a, len, cap, elems, rest, n', rfl, rfl, rfl, hb, hlc, hcm, hel, hget, -, -⟩
  · exact ⟨[], _, rfl, ⟨none, 0, rfl, ⟨Nat.le_refl _, fun _ => rfl⟩, by simp [RTs]⟩, by simp [bulkL]⟩
  · have key : ∀ i, i < len → ∃ t : T, ∃ (a' : Option Addr) (cap' : Nat) (cs' : List Value) (hi : i < elems.length), W.cells? base (a.add (i * 4)) 4 = some cs' ∧ cs' = [.int .i64 t.kind, .int .i64 t.n, .string t.name, .slice a' t.args.length cap'] ∧
        CapOk a' t.args.length cap' ∧ RTs (fun b => b < W.heap.size) W t.args a' 0 ∧ bulkL [t] ≤ Rows.uptoBulk (elems[i]).1 := by
      intro i hi
      have h1 := hget i hi
      rw [cellsTerm, List.getElem?_eq_getElem (by omega)] at h1
      obtain ⟨cs', hc, ht⟩ := Option.bind_eq_some_iff.1 h1
      obtain ⟨t, a', cap', e, h2, h3, h4⟩ := term_of_trod n' cs' _ ht
      exact ⟨t, a', cap', cs', by omega, hc, e, h2, h3, h4⟩
    obtain ⟨ts, hts, hp⟩ := choose_list len key
    subst hts
    refine ⟨ts, _, rfl, ⟨some a, cap, rfl, ⟨hlc, by simp⟩, RTs_of _ _ _ _ _ fun j hj => ?_⟩, ?_⟩
    · obtain ⟨a', cap', cs', _, hc, rfl, h2, h3, _⟩ := hp j hj
      obtain ⟨b, off, spot⟩ := a
      have hspot : spot = none := by
        obtain ⟨_, _, cs0, _, hc0, rfl, _⟩ := hp 0 (by omega)
        have h0 := (World.cells?_some hc0).2.2 0 (by omega)
        simpa [Addr.add] using World.cell?_spot h0
      subst hspot
      obtain ⟨_, _, hcell⟩ := World.cells?_some hc
      have q0 := hcell 0 (by omega)
      have q1 := hcell 1 (by omega)
      have q2 := hcell 2 (by omega)
      have q3 := hcell 3 (by omega)
      rw [add_at] at q0 q1 q2 q3
      rw [Nat.zero_add]
      exact ⟨b, off, a', cap', rfl, World.block_lt_of_cell? W _ q0, q0, q1, q2, q3, h2, h3⟩
    · have hbl := bulk_list ts (elems.map (·.1)) (by simp [hel]) fun i h1 h2 => by
        obtain ⟨_, _, _, _, _, _, _, _, h4⟩ := hp i h1
        simpa using h4
      simp only [Rows.uptoBulk]
      omega

set_option maxRecDepth 100000 in
/-- An argument that is a slice of terms. -/
theorem open_terms {v : Value} {d : DataW H} {p : List MemPlace} {r : Reach} (hok : Value.okWide Tryd.prog W r base 22 v) (h : DataW.Trod enc Tryd.prog W 0 sp held 22 v d p) :
    ∃ ts, RSl (fun b => b < W.heap.size) W ts v ∧ bulkL ts ≤ Rows.uptoBulk d := by
  obtain ⟨a, len, cap, rfl⟩ := okWide_slice Tryd.underlying22 hok
  obtain ⟨fuel, hf⟩ := h
  obtain ⟨ts, v, e, h1, h2⟩ := terms_of_trod fuel _ _ hf
  simp only [Value.cells, List.cons.injEq, and_true] at e
  exact ⟨ts, by rw [e]; exact h1, h2⟩

/-- The arguments read behind the call as they did. -/
theorem trodAll_below {W' : World} (hB : Below W.heap.size W W') : ∀ (ts : List TypeId) (vs : List Value) (ds : List (DataW H)) (ps : List MemPlace), (∀ t ∈ ts, Tryd.prog.readableRec t = true ∧ t < Tryd.prog.types.size) →
    DataW.TrodAll enc Tryd.prog W 0 (fun _ => true) true ts vs ds ps → (∀ x ∈ ps, x.block < W.heap.size) → DataW.TrodAll enc Tryd.prog W' 0 (fun b => decide (b < W.heap.size)) true ts vs ds ps
  | [], [], [], ps, _, h, _ => h
  | t :: ts, v :: vs, d :: ds, ps, hr, h, hp => by
    obtain ⟨p, q, h1, h2, rfl⟩ := h
    exact ⟨p, q, Below.trod laidOut (hr t (by simp)).1 (hr t (by simp)).2 h1 hB fun x hx => hp x (List.mem_append_left _ hx),
      trodAll_below hB ts vs ds q (fun t ht => hr t (by simp [ht])) h2 fun x hx => hp x (List.mem_append_right _ hx), rfl⟩
  | [], _ :: _, _, _, _, h, _ => h.elim
  | [], [], _ :: _, _, _, h, _ => h.elim
  | _ :: _, [], _, _, _, h, _ => h.elim
  | _ :: _, _ :: _, [], _, _, h, _ => h.elim

set_option maxRecDepth 100000 in
/-- WHAT A LAW OWES: true, and old memory as it was. -/
theorem post_true {f : Func} {s : ChangeSpec} {W' : World} {args : Array Value} {ds gs : List (DataW H)} {before : List MemPlace}
    (hW : DataW.Whole enc Tryd.prog f.params.toList s.vars false W args.toList ds gs before) (hv : s.vars = []) (hrt : f.resultTypes = #[4])
    (hs : (s.fn H (ds ++ gs)).results = [.lit (.bool true)] ∧ (s.fn H (ds ++ gs)).args = ds ∧ (s.fn H (ds ++ gs)).vars = [])
    (hr : ∀ t ∈ f.params.toList, Tryd.prog.readableRec t = true ∧ t < Tryd.prog.types.size) (hB : Below W.heap.size W W') :
    s.post enc Tryd.prog f false true false false W args (.bool true) W' := by
  have hW' := hW
  have hlt : ∀ p ∈ before, p.block < W.heap.size := fun p hp => hW.lt p hp
  obtain ⟨p, q, hA, hV, rfl, hfz, hnd⟩ := hW
  rw [hv] at hV
  refine ⟨ds, gs, p ++ q, [], p, [], hW', ?_, ?_, ?_, hB.frame _, fun h => by cases h⟩
  · rw [hs.1, hrt]
    exact trodAll_cons_mk (shut_bool Tryd.underlying4 _) trodAll_mk0
  · rw [hs.2.1]
    exact trodAll_below hB _ _ _ _ hr hA fun x hx => hlt x (List.mem_append_left _ hx)
  · rw [hs.2.2, hv]
    rfl
end
end Go.Proofs.YtedfepnekjjmnabDoor
