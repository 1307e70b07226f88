/-
  clerklaw.live: the live words of nodes. No condition but a bound.
-/
import Derived.Test.YtedfepnekjjmnaaJk
namespace Go.Proofs.Ytedfepnekjjmnaa
open Go.RowKit
set_option linter.unusedSimpArgs false
set_option linter.unusedVariables false
set_option maxRecDepth 100000

theorem mapP (a : Act) {o : Oper} {Q : Exit → Act → World → Prop} {ops : Array Oper} {rest : List Oper} {w : World} (hgd : o.guard = none) (m x y : Operand) (hop : o.op = Op.mapUpdate 133 m x y) {r b : Nat} {S : List Nat} (hm : a.eval m = .map (some r)) (hx : a.eval x = ptr b) (hy : a.eval y = .bool true) (hM : PMap w r S) (hb : IsC w b) (hS : ∀ s ∈ S, IsC w s) (hn : b ∉ S)
    (hK : ∀ w', PMap w' r (S ++ [b]) → w.grownBy w' (some r) → wpList Try.prog ops Q rest (a.put o.dst undef) w') : wpList Try.prog ops Q (o :: rest) a w :=
  wpList_plain hgd fun _ hK' => wp_putP m x y hop hm hx hy hM hb hS hn fun w' h1 h2 => hK' _ _ (hK w' h1 h2)
theorem manyN {o : Oper} {a : Act} {Q : Exit → Act → World → Prop} {ops : Array Oper} {rest : List Oper} {w : World} (hgd : o.guard = none) (s x : Operand) (ho : o.op = .call { callee := .builtin .append, args := #[s, x], argTypes := #[79, 79] })
    {P F R S : Nat → Prop} {w0 : World} {bs : List (Nat × List Value)} {v vx : Value} {xs ys : List (Option Nat)}
    (hs : a.eval s = v) (hx : a.eval x = vx) (h : RQ P F w0 bs w [rN v xs]) (hy : RX ptrE R S w ys vx) (hS : ∀ b, S b → P b) (hn : xs.length + ys.length ≤ 274877906944)
    (hK : ∀ a' cap w', RQ P F w0 bs w' [rN (.slice a' (xs.length + ys.length) cap) (xs ++ ys)] → w.grownBy w' v.ownBlock → wpList Try.prog ops Q rest (a.put o.dst (.slice a' (xs.length + ys.length) cap)) w') : wpList Try.prog ops Q (o :: rest) a w :=
  wpList_plain hgd fun _ hK' => wp_manyQ s x ptrF ho [] [] hs hx h hy hS hn fun v' w' h1 h2 h3 => by
    obtain ⟨a', cap, rfl⟩ := h3
    exact hK' _ _ (hK a' cap w' h1 h2)
theorem RQ.sizeN {P F : Nat → Prop} {w0 w : World} {bs : List (Nat × List Value)} {v : Value} {os : List (Option Nat)} (h : RQ P F w0 bs w [rN v os]) : ∃ a cap, v = .slice a os.length cap := by
  have ho : OwnXQ ptrE ptrF.e P w0.heap.size w v os := h.ok (rN v os) (by simp)
  obtain ⟨a, cap, h, -⟩ := ho.rx.form
  exact ⟨a, cap, h⟩
theorem RQ.headN {P F : Nat → Prop} {w0 w : World} {bs : List (Nat × List Value)} {v : Value} {o : Option Nat} {os : List (Option Nat)} (h : RQ P F w0 bs w [rN v (o :: os)]) :
    ∃ g f cap, v = .slice (some ⟨g, f, none⟩) (os.length + 1) cap ∧ os.length + 1 ≤ cap ∧ w.cell? ⟨g, f, none⟩ = some (optr o) := by
  have ho : OwnXQ ptrE ptrF.e P w0.heap.size w v (o :: os) := h.ok (rN v (o :: os)) (by simp)
  exact ho.headP

def LiveI (N : Nat → NodeD) (ns : List (Option Nat)) (w : World) (r : Nat) (v4 v5 : Value) (wr : World) : Prop :=
  ∃ (S : List Nat) (todo : List (Option Nat)) (n : Nat), v4 = .int .i64 (n : Int) ∧ LV N ns S todo n ∧ todo.length ≤ ns.length + 1000 * S.length ∧ RQ (fun _ => False) (fun b => b = r) w [] wr [rN v5 todo] ∧ PMap wr r S

set_option maxHeartbeats 4000000 in
theorem live_c (N : Nat → NodeD) (D : List Nat) (P : Nat → Prop) (ns : List (Option Nat)) (v : Value) (w : World) (R S : Nat → Prop) (hv : RX ptrE R S w ns v) (hN : NodesR P w N D) (hn : ∀ b, some b ∈ ns → b ∈ D) (hD : D.length ≤ 1000000) (hl : ns.length ≤ 100000000000) :
    Calls Try.prog 51 #[v] w fun e w' => Below w.heap.size w w' ∧ ∃ L : List Nat, L.Nodup ∧ (∀ b, b ∈ L ↔ ReachN N ns b) ∧ e = .returned (.int .i64 ((L.map fun b => (N b).1).sum : Nat)) := by
  have HV := Lib.hid hv; have HN := Lib.hid hN; have HD := Lib.hid hn
  clear hv hN hn
  go_enter Try.func51, Try.ntmps51
  obtain ⟨r, hr⟩ : ∃ r, r = w.heap.size := ⟨_, rfl⟩
  obtain ⟨W1, hW1⟩ : ∃ W : World, W = w.alloc (.map #[] 0) := ⟨_, rfl⟩
  have hmm := @run_makeMap Try.prog
  go_wp2_with fail
  rw [← hr, ← hW1]
  clear hmm
  have HB1 : Hid (Below w.heap.size w W1) := Lib.hid (by rw [hW1]; exact below_alloc _ _)
  have HM1 : Hid (PMap W1 r []) := Lib.hid (by rw [hW1, hr]; exact PMap.new w)
  have hs1 : W1.heap.size = w.heap.size + 1 := by rw [hW1]; simp
  refine (cloneN_c R S ns W1 v (HV.out.below HB1.out) (by omega)).mono ?_
  rintro e W2 ⟨v', rfl, hO, hB⟩
  have HI : Hid (LiveI N ns w r (.int .i64 0) v' W2) := Lib.hid (by
    have hb2 := below_step HB1.out (by omega) hB
    have hs2 := hB.size
    refine ⟨[], ns, 0, rfl, LV.start N ns, by simp, ?_, HM1.out.to (hB.block r (by omega))⟩
    have h0 : RQ (fun _ => False) (fun b => b = r) w [] W2 [] := ⟨hb2, fun b hb => hb.elim, by simp, List.Pairwise.nil, fun b hb => ⟨by omega, by omega, by simp⟩, by simp⟩
    refine h0.addRow (rN v' ns) ?_ fun b hb => ⟨not_false, fun e => ?_, by simp, by simp⟩
    · obtain ⟨cs, h1, h2⟩ := hO.base (b2 := w.heap.size) (by omega)
      exact ⟨cs, h1, cells_ptrE.2 (cells_ptrE.1 h2)⟩
    · have := (hO.block b hb).1
      omega)
  clear hO hB HM1
  have HR := Lib.hid hr
  clear hr hW1
  go_wp2_with fail
  go_loopw [4, 5] (fun v4 v5 wr => LiveI N ns w r v4 v5 wr) (fun _ v5 wr => (D.length - mapSz wr r) * 1001 + lenV v5)
  case atStart => exact HI.out
  case round =>
    obtain ⟨S', todo, n, rfl, hLV, htl, hRQ, hPM⟩ := hrel
    have HLV := Lib.hid hLV; have HRQ := Lib.hid hRQ; have HPM := Lib.hid hPM
    clear hLV hRQ hPM
    have hSD : ∀ b ∈ S', b ∈ D := fun b hb => (HLV.out.sd b hb).mem HN.out HD.out
    have hSl := nodup_le HLV.out.nd hSD
    have HNr : Hid (NodesR (fun b => P b ∧ b < w.heap.size) wr N D) := Lib.hid (HN.out.to (fun _ h hl => ⟨h, hl⟩) fun b _ hb => HRQ.out.bel.block b hb)
    have hsm : n ≤ 1001 * S'.length := by rw [HLV.out.sum]; exact sum_few fun b hb => (HN.out.few b (hSD b hb)).2
    have HSC : Hid (∀ s ∈ S', IsC wr s) := Lib.hid fun s hs => (HNr.out.at' s (hSD s hs)).c
    have HSD := Lib.hid hSD; clear hSD
    have hmz := HPM.out.sz
    cases todo with
    | nil =>
      obtain ⟨a5, c5, rfl⟩ := HRQ.out.sizeN
      simp only [List.length_nil] at *
      go_wp2_with fail
      go_ret
      exact ⟨HRQ.out.bel, S', HLV.out.nd, HLV.out.done, by rw [HLV.out.sum]; rfl⟩
    | cons o todo =>
      obtain ⟨g, f, ch, rfl, hch, hc0⟩ := HRQ.out.headN
      have htl2 : todo.length + 1 ≤ ns.length + 1000 * S'.length := by simpa using htl
      have HT : Hid (∀ v', (ch = 1 ∧ v' = .slice (some ⟨g, f, none⟩) 0 0 ∨ ch ≠ 1 ∧ v' = .slice (some ⟨g, f + 1, none⟩) todo.length (ch - 1)) → RQ (fun _ => False) (fun b => b = r) w [] wr [rN v' todo]) := Lib.hid fun v' hv' => by
        rcases hv' with ⟨h1, rfl⟩ | ⟨h1, rfl⟩
        · obtain rfl : todo = [] := List.eq_nil_of_length_eq_zero (by omega)
          exact HRQ.out.zeroG (l1 := []) (l2 := []) rfl
        · exact HRQ.out.tailG (l1 := []) (l2 := []) rfl
      -- ROUND
      by_cases hc1 : ch = 1
      · subst hc1
        obtain rfl : todo = [] := List.eq_nil_of_length_eq_zero (by omega)
        simp only [List.length_nil, Nat.zero_add] at *
        cases o with
        | none =>
          simp only [optr, Option.map_none] at hc0
          go_wp2_with fail
          go_roundw
          case rel => exact ⟨S', [], n, rfl, HLV.out.skip (by simp), (by simp), HT.out _ (.inl ⟨by simp, rfl⟩), HPM.out⟩
          case measure => simp [lenV, hmz]
        | some x =>
          simp only [optr, Option.map_some] at hc0
          have hxD : x ∈ D := (HLV.out.td x (List.mem_cons_self ..)).mem HN.out HD.out
          obtain ⟨hxp, hxc, ax, cx, hxb, hxk⟩ := HNr.out.at' x hxD
          have HXC := Lib.hid hxc; have HXB := Lib.hid hxb; have HXK := Lib.hid hxk
          have hfew := HN.out.few x hxD
          have hxlow : x < w.heap.size := by obtain ⟨-, -, _, _, h, -⟩ := HN.out.at' x hxD; exact h.lt
          have hLK := HPM.out.look hxc HSC.out
          simp only [ptr] at hLK
          clear hxc hxb hxk
          by_cases hxs : x ∈ S'
          · rw [decide_eq_true hxs] at hLK
            go_wp2_with fail
            go_roundw
            case rel => exact ⟨S', [], n, rfl, HLV.out.skip (fun b e => by cases e; exact hxs), (by simp), HT.out _ (.inl ⟨by simp, rfl⟩), HPM.out⟩
            case measure => simp [lenV, hmz]
          · rw [decide_eq_false hxs] at hLK
            have hS1 : S'.length + 1 ≤ D.length := by
              have := nodup_le (HLV.out.take hxs).nd fun b hb => ((HLV.out.take hxs).sd b hb).mem HN.out HD.out
              simpa using this
            have hadd : IntKind.i64.wrap ((n : Int) + ((N x).1 : Int)) = ((n + (N x).1 : Nat) : Int) := by rw [IntKind.wrap_i64]; omega
            go_wp2_with (first
              | (at_mapUpdate; go_must (refine mapP _ rfl _ _ _ rfl rfl rfl rfl HPM.out HXC.out HSC.out hxs ?_); go_must (intro w3 hM3 hg3); go_must (clear hLK); have HM3 := Lib.hid hM3; have HG3 := Lib.hid hg3; clear hM3 hg3; go_must (have HR3 := Lib.hid ((HT.out _ (.inl ⟨by simp, rfl⟩)).turned rfl HG3.out)); go_must (have hxr : ¬ x = r := fun e => by have := HR.out; omega); go_must (have HX3 := Lib.hid (HXB.out.heap (w' := w3) (HG3.out.block x HXB.out.lt fun e => hxr (Option.some.inj e)))); go_must (have HK3 := Lib.hid (HXK.out.to (w' := w3) (fun _ h _ => h) (fun _ h _ => h) fun b hb hl => HG3.out.block b hl fun e => by have := HR.out; have e1 : b = r := Option.some.inj e; have := (hb.elim (fun h => h.elim) id).2; omega)); go_must (have hx30 := HX3.out.cell 0 _ rfl); go_must (have hx31 := HX3.out.cell 1 _ rfl))
              | (refine manyN rfl _ _ rfl rfl rfl HR3.out HK3.out (fun _ h => h) (by first | omega | (simp; omega)) ?_; intro a4 cap4 w4 hR4 hg4; have HR4 := Lib.hid hR4; have HG4 := Lib.hid hg4; clear hR4 hg4))
            have HM4 : Hid (PMap w4 r (S' ++ [x])) := Lib.hid (HM3.out.to (HR3.out.stay (l1 := []) (l2 := []) HG4.out r (.inr rfl)))
            have hm4 := HM4.out.sz
            simp only [List.length_append, List.length_cons, List.length_nil] at hm4
            go_roundw
            case rel => exact ⟨S' ++ [x], [] ++ (N x).2, n + (N x).1, by first | rfl | (rw [hadd]), HLV.out.take hxs, by simp; omega, by first | exact HR4.out | simpa using HR4.out, HM4.out⟩
            case measure => simp [lenV, hmz, hm4]; omega
      · have q1 : (1 : Int) ≤ (todo.length : Int) + 1 := by omega
        have q2 : (todo.length : Int) + 1 ≤ ch := by omega
        cases o with
        | none =>
          simp only [optr, Option.map_none] at hc0
          go_wp2_with fail
          go_roundw
          case rel => exact ⟨S', todo, n, rfl, HLV.out.skip (by simp), (by omega), HT.out _ (.inr ⟨hc1, rfl⟩), HPM.out⟩
          case measure => simp [lenV, hmz]
        | some x =>
          simp only [optr, Option.map_some] at hc0
          have hxD : x ∈ D := (HLV.out.td x (List.mem_cons_self ..)).mem HN.out HD.out
          obtain ⟨hxp, hxc, ax, cx, hxb, hxk⟩ := HNr.out.at' x hxD
          have HXC := Lib.hid hxc; have HXB := Lib.hid hxb; have HXK := Lib.hid hxk
          have hfew := HN.out.few x hxD
          have hxlow : x < w.heap.size := by obtain ⟨-, -, _, _, h, -⟩ := HN.out.at' x hxD; exact h.lt
          have hLK := HPM.out.look hxc HSC.out
          simp only [ptr] at hLK
          clear hxc hxb hxk
          by_cases hxs : x ∈ S'
          · rw [decide_eq_true hxs] at hLK
            go_wp2_with fail
            go_roundw
            case rel => exact ⟨S', todo, n, rfl, HLV.out.skip (fun b e => by cases e; exact hxs), (by omega), HT.out _ (.inr ⟨hc1, rfl⟩), HPM.out⟩
            case measure => simp [lenV, hmz]
          · rw [decide_eq_false hxs] at hLK
            have hS1 : S'.length + 1 ≤ D.length := by
              have := nodup_le (HLV.out.take hxs).nd fun b hb => ((HLV.out.take hxs).sd b hb).mem HN.out HD.out
              simpa using this
            have hadd : IntKind.i64.wrap ((n : Int) + ((N x).1 : Int)) = ((n + (N x).1 : Nat) : Int) := by rw [IntKind.wrap_i64]; omega
            go_wp2_with (first
              | (at_mapUpdate; go_must (refine mapP _ rfl _ _ _ rfl rfl rfl rfl HPM.out HXC.out HSC.out hxs ?_); go_must (intro w3 hM3 hg3); go_must (clear hLK); have HM3 := Lib.hid hM3; have HG3 := Lib.hid hg3; clear hM3 hg3; go_must (have HR3 := Lib.hid ((HT.out _ (.inr ⟨hc1, rfl⟩)).turned rfl HG3.out)); go_must (have hxr : ¬ x = r := fun e => by have := HR.out; omega); go_must (have HX3 := Lib.hid (HXB.out.heap (w' := w3) (HG3.out.block x HXB.out.lt fun e => hxr (Option.some.inj e)))); go_must (have HK3 := Lib.hid (HXK.out.to (w' := w3) (fun _ h _ => h) (fun _ h _ => h) fun b hb hl => HG3.out.block b hl fun e => by have := HR.out; have e1 : b = r := Option.some.inj e; have := (hb.elim (fun h => h.elim) id).2; omega)); go_must (have hx30 := HX3.out.cell 0 _ rfl); go_must (have hx31 := HX3.out.cell 1 _ rfl))
              | (refine manyN rfl _ _ rfl rfl rfl HR3.out HK3.out (fun _ h => h) (by first | omega | (simp; omega)) ?_; intro a4 cap4 w4 hR4 hg4; have HR4 := Lib.hid hR4; have HG4 := Lib.hid hg4; clear hR4 hg4))
            have HM4 : Hid (PMap w4 r (S' ++ [x])) := Lib.hid (HM3.out.to (HR3.out.stay (l1 := []) (l2 := []) HG4.out r (.inr rfl)))
            have hm4 := HM4.out.sz
            simp only [List.length_append, List.length_cons, List.length_nil] at hm4
            go_roundw
            case rel => exact ⟨S' ++ [x], todo ++ (N x).2, n + (N x).1, by first | rfl | (rw [hadd]), HLV.out.take hxs, by simp; omega, by first | exact HR4.out | simpa using HR4.out, HM4.out⟩
            case measure => simp [lenV, hmz, hm4]; omega
end Go.Proofs.Ytedfepnekjjmnaa
