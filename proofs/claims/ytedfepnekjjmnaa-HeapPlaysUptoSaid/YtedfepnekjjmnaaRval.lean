/-
  clerkref.value: what it answers. Conditions: a formed term, four bound ones.
-/
import Derived.Deep.RegionHeld3
import Derived.Test.YtedfepnekjjmnaaJc
import Derived.Test.YtedfepnekjjmnaaJa
import Derived.Test.YtedfepnekjjmnaaJb
namespace Go.Proofs.Ytedfepnekjjmnaa
open Go.RowKit
set_option linter.unusedSimpArgs false
set_option linter.unusedVariables false

def VPost (S : Nat → Prop) (w : World) (o : Option T) (e : Ending) (w' : World) : Prop :=
  ∃ t v b, e = .returned (.tuple #[v, .bool b]) ∧ Below w.heap.size w w' ∧ RT (fun b => S b ∨ w.heap.size ≤ b) w' t v ∧ o = if b then some t else none
theorem VPost.of {S : Nat → Prop} {w w' : World} {o : Option T} {e : Ending} (t : T) (v : Value) (b : Bool) (he : e = .returned (.tuple #[v, .bool b])) (hB : Below w.heap.size w w')
    (hr : RT (fun b => S b ∨ w.heap.size ≤ b) w' t v) (ho : o = if b then some t else none) : VPost S w o e w' := ⟨t, v, b, he, hB, hr, ho⟩
theorem RT.slot {S : Nat → Prop} {w : World} {t : T} {v : Value} (h : RT S w t v) (B o : Nat) (u : Value) (hP : ∀ b, S b → b ≠ B) : RT S (w.setCell ⟨B, o, none⟩ u) t v :=
  h.to (fun _ h _ => h) fun b hb _ => setCell_other w B o u b (hP b hb)

section
variable {bd : List T} {self : Int} {x : T} {S : Nat → Prop} {w : World} {v vb : Value}

set_option maxHeartbeats 1000000 in
theorem rval_6 (hv : RT S w x v) (hS : ∀ b, S b → b < w.heap.size) (hk : x.kind = 6) : Calls Try.prog 60 #[v, vb, .int .i64 self] w (VPost S w (valT bd self x)) := by
  obtain ⟨a, cap, rfl, hcap, hr⟩ := hv
  have HX : Hid (RT S w x _) := Lib.hid ⟨a, cap, rfl, hcap, hr⟩
  clear hcap hr
  have HV := Lib.hid (valT_6 (bd := bd) (self := self) hk)
  have h1 : w.heap.size < w.heap.size + 1 + 1 := by omega
  go_enter Try.func60, Try.ntmps60
  go_wp2_with fail
  refine bodyPost_ret (v := .tuple #[.agg #[.int .i64 x.kind, .int .i64 x.n, .string x.name, .slice a x.args.length cap], .bool false]) (by simp [results, Try.results60, go_sem, hk]) rfl (VPost.of x _ _ rfl ?_ ?_ HV.out)
  · repeat refine Below.setCell ?_ (by simp <;> omega) _
    exact (below_alloc _ _).alloc (by simp) _
  · refine RT.mono (S := S) ?_ fun b hb => .inl hb
    repeat refine RT.slot ?_ _ _ _ (fun b hb => by have := hS b hb; simp <;> omega)
    exact (HX.out.alloc _).alloc _

set_option maxHeartbeats 1000000 in
theorem rval_o (hv : RT S w x v) (hS : ∀ b, S b → b < w.heap.size) (hk4 : x.kind ≠ 4) (hk5 : x.kind ≠ 5) (hk6 : x.kind ≠ 6) : Calls Try.prog 60 #[v, vb, .int .i64 self] w (VPost S w (valT bd self x)) := by
  obtain ⟨a, cap, rfl, hcap, hr⟩ := hv
  have HX : Hid (RT S w x _) := Lib.hid ⟨a, cap, rfl, hcap, hr⟩
  clear hcap hr
  have HV := Lib.hid (valT_o (bd := bd) (self := self) hk4 hk5 hk6)
  have h4 : (x.kind == 4) = false := by simpa using hk4
  have h5 : (x.kind == 5) = false := by simpa using hk5
  have h6 : (x.kind == 6) = false := by simpa using hk6
  have h1 : w.heap.size < w.heap.size + 1 + 1 := by omega
  clear hk4 hk5 hk6
  go_enter Try.func60, Try.ntmps60
  go_wp2_with fail
  refine bodyPost_ret (v := .tuple #[.agg #[.int .i64 x.kind, .int .i64 x.n, .string x.name, .slice a x.args.length cap], .bool true]) (by simp [results, Try.results60, go_sem]) rfl (VPost.of x _ _ rfl ?_ ?_ HV.out)
  · repeat refine Below.setCell ?_ (by simp <;> omega) _
    exact (below_alloc _ _).alloc (by simp) _
  · refine RT.mono (S := S) ?_ fun b hb => .inl hb
    repeat refine RT.slot ?_ _ _ _ (fun b hb => by have := hS b hb; simp <;> omega)
    exact (HX.out.alloc _).alloc _

set_option maxHeartbeats 1000000 in
theorem rval_5 (hv : RT S w x v) (hb : RSl S w bd vb) (hl : bd.length = 4) (hS : ∀ b, S b → b < w.heap.size) (hk : x.kind = 5) (hn : ∃ k : Nat, x.n = k ∧ k < 4) : Calls Try.prog 60 #[v, vb, .int .i64 self] w (VPost S w (valT bd self x)) := by
  obtain ⟨a, cap, rfl, hcap, hr⟩ := hv
  obtain ⟨ab, capb, rfl, hcapb, hrb⟩ := hb
  obtain ⟨k, hn, hk4⟩ := hn
  obtain ⟨b, o, rfl⟩ := hrb.addr (by omega)
  obtain ⟨a', cap', hSb, d0, d1, d2, d3, hE⟩ := hrb.elem k (by omega)
  have hE := Lib.hid hE
  have HV := Lib.hid (valT_5 (bd := bd) (self := self) hk hn (by omega))
  have h1 : w.heap.size < w.heap.size + 1 + 1 := by omega
  have hlb : b < w.heap.size := hS b hSb
  have hlb' : b < w.heap.size + 1 := by omega
  clear hcap hr hcapb hrb
  rw [hn, hl, hk]
  have hkl : (k : Int) < 4 := by omega
  generalize bd[k] = u at *
  go_enter Try.func60, Try.ntmps60
  go_wp2_with fail
  go_region
  go_wp2_with fail
  refine bodyPost_ret (v := .tuple #[.agg #[.int .i64 u.kind, .int .i64 u.n, .string u.name, .slice a' u.args.length cap'], .bool (u.kind != 6)]) (by simp [results, Try.results60, go_sem]) rfl (VPost.of u _ _ rfl ?_ ?_ ?_)
  · repeat refine Below.setCell ?_ (by simp <;> omega) _
    exact Below.drew ((below_alloc _ _).alloc (by simp) _)
  · refine RT.mono (S := S) ?_ fun b hb => .inl hb
    repeat refine RT.slot ?_ _ _ _ (fun b hb => by have := hS b hb; simp <;> omega)
    exact hE.out.below (Below.drew ((below_alloc _ _).alloc (by simp) _))
  · rw [HV.out, varO]; by_cases h : u.kind = 6 <;> simp [h]

set_option maxHeartbeats 2000000 in
theorem rval_self (hv : RT S w x v) (hS : ∀ b, S b → b < w.heap.size) (hb : bulkL [x] ≤ 1099511627776) (hk : x.kind = 4) (hs : isT x sSelf 0 = true) : Calls Try.prog 60 #[v, vb, .int .i64 self] w (VPost S w (valT bd self x)) := by
  obtain ⟨a, cap, rfl, hcap, hr⟩ := hv
  have HX : Hid (RT S w x _) := Lib.hid ⟨a, cap, rfl, hcap, hr⟩
  clear hcap hr
  have HV := Lib.hid (valT_self (bd := bd) (self := self) hk hs)
  have h1 : w.heap.size < w.heap.size + 1 + 1 := by omega
  have h4 : (x.kind == 4) = true := by simpa using hk
  have h5 : (x.kind == 5) = false := by simp [hk]
  have h6 : (x.kind == 6) = false := by simp [hk]
  clear hk
  go_enter Try.func60, Try.ntmps60
  go_wp2_with fail
  refine (is_Is x sSelf 0 S _ _ ((HX.out.alloc _).alloc _) (by omega) (by omega) (by omega)).mono ?_
  rintro e w1 ⟨rfl, hB1⟩
  rw [hs]
  have hs1 := hB1.size
  obtain ⟨hcc, hff⟩ := bcell hB1
  simp only [World.size_alloc] at hs1 hcc hff
  have g1 : w.heap.size < w1.heap.size := by omega
  have g2 : w.heap.size + 1 < w1.heap.size := by omega
  have hlt := hS
  go_wp2_with fail
  refine bodyPost_ret (v := .tuple #[.agg #[.int .i64 3, .int .i64 self, .string ⟨#[]⟩, .slice none 0 0], .bool true]) (by simp [results, Try.results60, go_sem, hcc, hff]) rfl (VPost.of (pidT self) _ _ rfl ?_ ?_ HV.out)
  · repeat refine Below.setCell ?_ (by simp <;> omega) _
    exact below_step ((below_alloc _ _).alloc (by simp) _) (by simp <;> omega) hB1
  · exact ⟨none, 0, rfl, ⟨Nat.le_refl _, fun _ => rfl⟩, by simp [pidT, RTs]⟩

set_option maxHeartbeats 2000000 in
theorem rval_put (hv : RT S w x v) (hS : ∀ b, S b → b < w.heap.size) (hb : bulkL [x] ≤ 1099511627776) (hk : x.kind = 4) (hs : isT x sSelf 0 = false) (hp : isT x sPut 1 = true) : Calls Try.prog 60 #[v, vb, .int .i64 self] w (VPost S w (valT bd self x)) := by
  obtain ⟨a, cap, rfl, hcap, hr⟩ := hv
  have HX : Hid (RT S w x _) := Lib.hid ⟨a, cap, rfl, hcap, hr⟩
  have hln := isT_length hp
  have hba := bulk_args x
  have hbe := bulk_at (ts := x.args) (i := 1) (by omega)
  obtain ⟨b, o, rfl⟩ := hr.addr (by omega)
  obtain ⟨a', cap', hSb, d0, d1, d2, d3, hE⟩ := hr.elem 1 (by omega)
  have hE := Lib.hid hE
  have hlb : b < w.heap.size := hS b hSb
  have HV := Lib.hid (valT_put (bd := bd) (self := self) hk hs hp (by omega))
  have h1 : w.heap.size < w.heap.size + 1 + 1 := by omega
  have h4 : (x.kind == 4) = true := by simpa using hk
  have h5 : (x.kind == 5) = false := by simp [hk]
  have h6 : (x.kind == 6) = false := by simp [hk]
  clear hk hcap hr
  simp only [Nat.one_mul] at d0 d1 d2 d3
  generalize x.args[1] = u at *
  go_enter Try.func60, Try.ntmps60
  go_wp2_with fail
  refine (is_Is x sSelf 0 S _ _ ((HX.out.alloc _).alloc _) (by omega) (by omega) (by omega)).mono ?_
  rintro e w1 ⟨rfl, hB1⟩
  rw [hs]
  have hs1 := hB1.size
  obtain ⟨hcc, hff⟩ := bcell hB1
  simp only [World.size_alloc] at hs1 hcc hff
  have g1 : w.heap.size < w1.heap.size := by omega
  have g2 : w.heap.size + 1 < w1.heap.size := by omega
  have g3 : b < w1.heap.size := by omega
  have g4 : b < w.heap.size + 1 + 1 := by omega
  have g5 : b < w.heap.size + 1 := by omega
  have HB1 := Lib.hid (below_step ((below_alloc _ _).alloc (by simp) _) (by simp <;> omega) hB1)
  have hs0 : w.heap.size ≤ w1.heap.size := by omega
  go_wp2_with fail
  refine (is_Is x sPut 1 S _ _ (HX.out.below HB1.out) (by omega) (by omega) (by omega)).mono ?_
  rintro e w2 ⟨rfl, hB2⟩
  rw [hp]
  have hs2 := hB2.size
  obtain ⟨hcc2, hff2⟩ := bcell hB2
  have HB2 := Lib.hid (below_step HB1.out (by omega) hB2)
  go_wp2_with fail
  have HE2 := Lib.hid ((hE.out.below HB2.out).mono (S' := S) fun _ h => h)
  have g6 : w.heap.size < w2.heap.size := by omega
  have g7 : b < w2.heap.size := by omega
  have g8 : w.heap.size + 1 < w2.heap.size := by omega
  have hlu : (1 : Int) < x.args.length := by omega
  have hc3 : w2.cell? ⟨w.heap.size, 3, none⟩ = some (.slice (some ⟨b, o, none⟩) x.args.length cap) := by rw [hcc2 _ _ g1, hcc _ _ h1]; go_simp
  obtain ⟨e0, e1, e2, e3⟩ : w2.cell? ⟨b, o + 4, none⟩ = some (.int .i64 u.kind) ∧ w2.cell? ⟨b, o + 4 + 1, none⟩ = some (.int .i64 u.n) ∧ w2.cell? ⟨b, o + 4 + 2, none⟩ = some (.string u.name) ∧ w2.cell? ⟨b, o + 4 + 3, none⟩ = some (.slice a' u.args.length cap') := by
    obtain ⟨q, -⟩ := bcell HB2.out
    rw [q _ _ hlb, q _ _ hlb, q _ _ hlb, q _ _ hlb]; exact ⟨d0, d1, d2, d3⟩
  have hq : ∀ w3 : World, Below w2.drew.heap.size w2.drew w3 → w3.cell? ⟨w.heap.size, 3, none⟩ = some (.slice (some ⟨b, o, none⟩) x.args.length cap) ∧ w3.cell? ⟨b, o + 4, none⟩ = some (.int .i64 u.kind) ∧ w3.cell? ⟨b, o + 4 + 1, none⟩ = some (.int .i64 u.n) ∧ w3.cell? ⟨b, o + 4 + 2, none⟩ = some (.string u.name) ∧ w3.cell? ⟨b, o + 4 + 3, none⟩ = some (.slice a' u.args.length cap') := fun w3 h => by
    obtain ⟨q, -⟩ := bcell h
    rw [q _ _ g6, q _ _ g7, q _ _ g7, q _ _ g7, q _ _ g7]; exact ⟨hc3, e0, e1, e2, e3⟩
  have hz : ∀ w3 : World, Below w2.drew.heap.size w2.drew w3 → (∀ o, w3.frozen? ⟨w.heap.size + 1, o, none⟩ = false) ∧ w3.cell? ⟨w.heap.size + 1, 0, none⟩ = some (.int .i64 0) ∧ w3.cell? ⟨w.heap.size + 1, 1, none⟩ = some (.int .i64 0) ∧ w3.cell? ⟨w.heap.size + 1, 2, none⟩ = some (.string ⟨#[]⟩) ∧ w3.cell? ⟨w.heap.size + 1, 3, none⟩ = some (.slice none 0 0) := fun w3 h => by
    obtain ⟨q, r⟩ := bcell h
    have hx : w.heap.size + 1 < w.heap.size + 1 + 1 := by omega
    refine ⟨fun o => ?_, ?_⟩
    · rw [r _ _ g8]; show w2.frozen? _ = _; rw [hff2 _ _ g2, hff _ _ hx]; go_simp
    · rw [q _ _ g8, q _ _ g8, q _ _ g8, q _ _ g8]; show w2.cell? _ = _ ∧ w2.cell? _ = _ ∧ w2.cell? _ = _ ∧ w2.cell? _ = _; rw [hcc2 _ _ g2, hcc2 _ _ g2, hcc2 _ _ g2, hcc2 _ _ g2, hcc _ _ hx, hcc _ _ hx, hcc _ _ hx, hcc _ _ hx]; go_simp
  have hbne : b ≠ w.heap.size + 1 := by omega
  have hbne' : w.heap.size + 1 ≠ b := by omega
  have hbn2 : w.heap.size ≠ w.heap.size + 1 := by omega
  have hkeep : ∀ (w4 : World) (u0 u1 u2 u3 : Value), Below w2.drew.heap.size w2.drew w4 → (fun w' : World => w'.cell? ⟨w.heap.size, 3, none⟩ = some (.slice (some ⟨b, o, none⟩) x.args.length cap) ∧ w'.cell? ⟨b, o + 4, none⟩ = some (.int .i64 u.kind) ∧ w'.cell? ⟨b, o + 4 + 1, none⟩ = some (.int .i64 u.n) ∧ w'.cell? ⟨b, o + 4 + 2, none⟩ = some (.string u.name) ∧ w'.cell? ⟨b, o + 4 + 3, none⟩ = some (.slice a' u.args.length cap')) ((((w4.setCell ⟨w.heap.size + 1, 0, none⟩ u0).setCell ⟨w.heap.size + 1, 1, none⟩ u1).setCell ⟨w.heap.size + 1, 2, none⟩ u2).setCell ⟨w.heap.size + 1, 3, none⟩ u3) := fun w4 u0 u1 u2 u3 h => by
    have e : ∀ b' o', b' ≠ w.heap.size + 1 → ((((w4.setCell ⟨w.heap.size + 1, 0, none⟩ u0).setCell ⟨w.heap.size + 1, 1, none⟩ u1).setCell ⟨w.heap.size + 1, 2, none⟩ u2).setCell ⟨w.heap.size + 1, 3, none⟩ u3).cell? ⟨b', o', none⟩ = w4.cell? ⟨b', o', none⟩ := fun b' o' hne => by
      refine World.cell?_of_block ?_
      simp only [setCell_other _ _ _ _ _ hne]
    simp only [e _ _ hbne, e _ _ hbn2]
    exact hq _ h
  go_region_held3 (fun w' => w'.cell? ⟨w.heap.size, 3, none⟩ = some (.slice (some ⟨b, o, none⟩) x.args.length cap) ∧ w'.cell? ⟨b, o + 4, none⟩ = some (.int .i64 u.kind) ∧ w'.cell? ⟨b, o + 4 + 1, none⟩ = some (.int .i64 u.n) ∧ w'.cell? ⟨b, o + 4 + 2, none⟩ = some (.string u.name) ∧ w'.cell? ⟨b, o + 4 + 3, none⟩ = some (.slice a' u.args.length cap'))
      (first | exact ⟨hc3, e0, e1, e2, e3⟩ | exact hq _ hB3 | exact hkeep _ _ _ _ _ hB3 | go_keep)
      (first
        | (go_at_call 26; refine (rclosed_c u S _ _ (HE2.out.below ?_) (fun b hb => by have := hS b hb; simp <;> omega) (by omega)).mono ?_; (repeat' (first | exact Below.refl _ _ | apply Below.drew | refine Below.alloc ?_ (by simp <;> omega) _)); rintro e w3 ⟨rfl, hB3⟩; obtain ⟨z0, z1, z2, z3, z4⟩ := hz _ hB3; obtain ⟨y0, y1, y2, y3, y4⟩ := hq _ hB3; have hs3 := hB3.size; simp only [World.size_drew] at hs3))
  go_wp2_with fail
  refine bodyPost_ret (v := .tuple #[.agg #[.int .i64 u.kind, .int .i64 u.n, .string u.name, .slice a' u.args.length cap'], .bool (closedL [u])]) (by simp [results, Try.results60, go_sem, z1, z2, z3, z4]) rfl (VPost.of u _ _ rfl ?_ ?_ ?_)
  · repeat refine Below.setCell ?_ (by simp <;> omega) _
    exact below_step HB2.out.drew (by simp; omega) hB3
  · refine RT.mono (S := S) ?_ fun b hb => .inl hb
    repeat refine RT.slot ?_ _ _ _ (fun b hb => by have := hS b hb; simp <;> omega)
    exact (HE2.out.below (Below.drew (Below.refl _ _))).below hB3
  · rw [HV.out, putO]
end
end Go.Proofs.Ytedfepnekjjmnaa
