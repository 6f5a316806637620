/- Words for the rows: what came in, opened by its type: structs, arrays, slices of numbers, of structs and of slices. -/
import Derived.Test.YtliddinpfgpnfaaA7
import Derived.SizedLaws
import Derived.OpenShut
import Derived.Deep.Slices
namespace Go.Proofs.Ytliddinpfgpnfaa
open Go Go.RowKit Go.Sort
set_option linter.unusedSimpArgs false
set_option linter.unusedVariables false

theorem exists_list {α : Type} (n : Nat) (Q : Nat → α → Prop) (h : ∀ i, i < n → ∃ a, Q i a) : ∃ l : List α, l.length = n ∧ ∀ i a, l[i]? = some a → Q i a := by
  induction n with
  | zero => exact ⟨[], rfl, fun i a h => by simp at h⟩
  | succ n ih =>
    obtain ⟨l, hl, hq⟩ := ih (fun i hi => h i (by omega))
    obtain ⟨a, ha⟩ := h n (by omega)
    refine ⟨l ++ [a], by simp [hl], fun i b hb => ?_⟩
    by_cases hi : i < n
    · rw [List.getElem?_append_left (by omega)] at hb; exact hq i b hb
    · obtain ⟨hlt, -⟩ := List.getElem?_eq_some_iff.1 hb
      simp at hlt
      obtain rfl : i = n := by omega
      rw [List.getElem?_append_right (by omega), hl] at hb
      simp at hb
      subst hb
      exact ha

section
variable {H : Type} {enc : TypeId × Value → H} {P : Program} {w : World} {base : Nat} {spare : Nat → Bool} {held : Bool} {t e : TypeId} {cs : List Value}

theorem weights_mem_all {P : Program} {e : TypeId} : ∀ {ds : List (DataW H)} {j : Nat} {d : DataW H}, ds[j]? = some d → ∀ n ∈ d.weights P e, n ∈ DataW.weightsAll P e ds
  | d0 :: ds, 0, d, hd, n, hn => by
    simp only [List.getElem?_cons_zero, Option.some.injEq] at hd
    subst hd
    simp only [DataW.weightsAll, List.mem_append]
    exact Or.inl hn
  | d0 :: ds, j + 1, d, hd, n, hn => by
    simp only [List.getElem?_cons_succ] at hd
    simp only [DataW.weightsAll, List.mem_append]
    exact Or.inr (weights_mem_all hd n hn)
  | [], _, _, hd, _, _ => by simp at hd

/-- Cells that read as a datum of a type, each row of it within its reach. -/
def Gd (enc : TypeId × Value → H) (P : Program) (w : World) (base : Nat) (spare : Nat → Bool) (held : Bool) (t : TypeId) (cs : List Value) : Prop :=
  ∃ fuel x, DataW.trod enc P w base spare held fuel t cs = some x ∧ ∀ n ∈ DataW.weights P t x.1, n ≤ reachBytes

theorem Gd.of_arg {ts : List TypeId} {ds : List (DataW H)} {j : Nat} {v : Value} {d : DataW H} {p : List MemPlace} (hsz : (DataW.weightsEach P ts ds).all (· ≤ reachBytes) = true) (ht : ts[j]? = some t) (hd : ds[j]? = some d)
    (h : DataW.Trod enc P w base spare held t v d p) : Gd enc P w base spare held t v.cells.toList := by
  obtain ⟨fuel, hf⟩ := h
  exact ⟨fuel, _, hf, fun n hn => by simpa using List.all_eq_true.1 hsz _ (DataW.weights_mem_each ht hd n hn)⟩

theorem Gd.field {fs : Array Field} (h : Gd enc P w base spare held t cs) (ht : P.underlying t = some (.struct fs)) {i : Nat} {f : Field} (hf : fs[i]? = some f) :
    Gd enc P w base spare held f.type ((cs.drop f.offset).take (P.cellsOf f.type)) := by
  obtain ⟨fuel, x, hx, hs⟩ := h
  obtain ⟨xs, n, _, rfl, hl, hlen, hall⟩ := DataW.trod_struct ht hx
  have hi : i < xs.length := by
    obtain ⟨h1, _⟩ := Array.getElem?_eq_some_iff.1 hf
    omega
  refine ⟨n, xs[i], by rw [hall i f hf]; simp, fun m hm => hs m ?_⟩
  simp only [DataW.weights, ht]
  exact DataW.weights_mem_each (j := i) (by simp [hf]) (by simp [hi]) m hm

theorem Gd.part {n : Nat} (h : Gd enc P w base spare held t cs) (ht : P.underlying t = some (.array n e)) {i : Nat} (hi : i < n) :
    Gd enc P w base spare held e ((cs.drop (i * P.cellsOf e)).take (P.cellsOf e)) := by
  obtain ⟨fuel, x, hx, hs⟩ := h
  obtain ⟨xs, m, _, rfl, hl, hlen, hall⟩ := DataW.trod_array ht hx
  refine ⟨m, xs[i]'(by omega), by rw [hall i hi]; simp, fun q hq => hs q ?_⟩
  simp only [DataW.weights, ht]
  exact weights_mem_all (j := i) (by simp [show i < xs.length by omega]) q hq

theorem Gd.fieldAt {fs : Array Field} (h : Gd enc P w base spare held t cs) (ht : P.underlying t = some (.struct fs)) (i : Nat) {f : Field} (hf : fs[i]? = some f) (T off n : Nat) (hT : f.type = T) (ho : f.offset = off) (hn : P.cellsOf T = n) :
    Gd enc P w base spare held T ((cs.drop off).take n) := by
  subst hT; subst ho; subst hn
  exact h.field ht hf

theorem Gd.partAt {m : Nat} (h : Gd enc P w base spare held t cs) (ht : P.underlying t = some (.array m e)) (i off n : Nat) (hi : i < m) (hn : P.cellsOf e = n) (ho : i * n = off) :
    Gd enc P w base spare held e ((cs.drop off).take n) := by
  subst ho; subst hn
  exact h.part ht hi

theorem Gd.int {k : IntKind} (h : Gd enc P w base spare held t cs) (ht : P.underlying t = some (.int k)) : ∃ n, cs = [.int k n] ∧ (Lit.int k n).wf = true := by
  obtain ⟨fuel, x, hx, _⟩ := h
  obtain ⟨n, h1, _, h3⟩ := DataW.trod_int ht hx
  exact ⟨n, h1, h3⟩

theorem Gd.bool (h : Gd enc P w base spare held t cs) (ht : P.underlying t = some .bool) : ∃ b, cs = [.bool b] := by
  obtain ⟨fuel, x, hx, _⟩ := h
  obtain ⟨b, h1, _⟩ := DataW.trod_bool ht hx
  exact ⟨b, h1⟩

theorem cells_get {a : Addr} {n : Nat} (h : w.cells? base a n = some cs) : cs.length = n ∧ ∀ j, j < n → w.cell? (a.add j) = cs[j]? := by
  unfold World.cells? at h
  split at h
  · refine ⟨by simpa using mapM_some_length h, fun j hj => mapM_some_get h j j (by simp [hj])⟩
  · cases h

theorem add_plain (b o i : Nat) : (⟨b, o, none⟩ : Addr).add i = ⟨b, o + i, none⟩ := by
  unfold Addr.add; split
  · rename_i h; subst h; rfl
  · rfl

theorem Gd.slice (h : Gd enc P w base spare held t cs) (ht : P.underlying t = some (.slice e)) (hpos : 0 < P.cellsOf e) :
    ∃ A len cap, cs = [.slice A len cap] ∧ len ≤ cap ∧ len * P.bytesOf e ≤ reachBytes ∧
      ∀ i, i < len → ∃ b o cs', A = some ⟨b, o, none⟩ ∧ cs'.length = P.cellsOf e ∧ (∀ j, j < P.cellsOf e → w.cell? ⟨b, o + i * P.cellsOf e + j, none⟩ = cs'[j]?) ∧ Gd enc P w base spare held e cs' := by
  obtain ⟨fuel, x, hx, hs⟩ := h
  rcases DataW.trod_slice ht hx with ⟨rfl, rfl⟩ | ⟨a, len, cap, elems, rest, n, _, rfl, rfl, hb, hl, hm, hlen, hel, _, _⟩
  · exact ⟨none, 0, 0, rfl, Nat.le_refl _, by simp, fun i hi => by omega⟩
  · have hw : (elems.length + rest.length) * P.bytesOf e ≤ reachBytes := hs _ (by simp [DataW.weights, ht])
    have form : 0 < len → ∃ b o, a = ⟨b, o, none⟩ := fun h0 => by
      have h1 := hel 0 h0
      rw [List.getElem?_eq_getElem (by omega), Option.bind_eq_some_iff] at h1
      obtain ⟨cs', h2, h3⟩ := h1
      obtain ⟨c1, c2⟩ := cells_get h2
      have c3 := c2 0 hpos
      rw [List.getElem?_eq_getElem (by omega)] at c3
      obtain ⟨b, o, s⟩ := a
      have h4 := World.cell?_spot c3
      have : s = none := by simpa [Addr.add] using h4
      subst this
      exact ⟨b, o, rfl⟩
    refine ⟨some a, len, cap, rfl, hl, Nat.le_trans (Nat.mul_le_mul_right _ (by omega)) hw, fun i hi => ?_⟩
    obtain ⟨b, o, rfl⟩ := form (by omega)
    have h1 := hel i hi
    rw [List.getElem?_eq_getElem (by omega), Option.bind_eq_some_iff] at h1
    obtain ⟨cs', h2, h3⟩ := h1
    obtain ⟨c1, c2⟩ := cells_get h2
    refine ⟨b, o, cs', rfl, c1, fun j hj => by rw [← c2 j hj, add_plain, add_plain], n, _, h3, fun q hq => hs q ?_⟩
    simp only [DataW.weights, ht]
    refine List.mem_cons_of_mem _ (List.mem_append_left _ ?_)
    exact weights_mem_all (j := i) (by simp [show i < elems.length by omega]) q hq

/-- A slice of whole numbers. -/
theorem Gd.ints (h : Gd enc P w base spare held t cs) (ht : P.underlying t = some (.slice e)) (he : P.underlying e = some (.int .i64)) (hc : P.cellsOf e = 1) (hb : P.bytesOf e = 8) :
    ∃ v zs, cs = [v] ∧ RI w v zs ∧ zs.length * 8 ≤ reachBytes ∧ ∀ z ∈ zs, (Lit.int .i64 z).wf = true := by
  obtain ⟨A, len, cap, rfl, hl, hw, hall⟩ := h.slice ht (by omega)
  rw [hb] at hw
  rw [hc] at hall
  obtain ⟨zs, hzl, hz⟩ := exists_list len (fun i (z : Int) => ∃ b o, A = some ⟨b, o, none⟩ ∧ w.cell? ⟨b, o + i * 1 + 0, none⟩ = some (.int .i64 z) ∧ (Lit.int .i64 z).wf = true) (fun i hi => by
    obtain ⟨b, o, cs', h1, h2, h3, h4⟩ := hall i hi
    obtain ⟨n, rfl, hn⟩ := h4.int he
    exact ⟨n, b, o, h1, by rw [h3 0 (by omega)]; rfl, hn⟩)
  refine ⟨_, zs, rfl, ⟨A, cap, by rw [hzl], by omega, by simp, fun j u hu => ?_⟩, by rw [hzl]; exact hw, fun z hz' => ?_⟩
  · rw [List.getElem?_map, Option.map_eq_some_iff] at hu
    obtain ⟨z, hz', rfl⟩ := hu
    obtain ⟨b, o, h1, h2, _⟩ := hz j z hz'
    exact ⟨b, o, h1, by simpa using h2⟩
  · obtain ⟨i, hi, rfl⟩ := List.getElem_of_mem hz'
    obtain ⟨_, _, _, _, h3⟩ := hz i _ (List.getElem?_eq_getElem hi)
    exact h3

theorem prs_get (ps : List (Int × Int)) : ∀ (j : Nat) (u : Value), (prs ps)[j]? = some u → ∃ i p, ps[i]? = some p ∧ (j = i * 2 ∧ u = .int .i64 p.1 ∨ j = i * 2 + 1 ∧ u = .int .i64 p.2) := by
  induction ps with
  | nil => intro j u h; simp [prs] at h
  | cons p ps ih =>
    intro j u h
    simp only [prs, List.flatMap_cons] at *
    match j, h with
    | 0, h => exact ⟨0, p, rfl, Or.inl ⟨rfl, by simpa using h.symm⟩⟩
    | 1, h => exact ⟨0, p, rfl, Or.inr ⟨rfl, by simpa using h.symm⟩⟩
    | j + 2, h =>
      obtain ⟨i, q, hq, hi⟩ := ih j u (by simpa using h)
      refine ⟨i + 1, q, by simpa using hq, ?_⟩
      rcases hi with ⟨h1, h2⟩ | ⟨h1, h2⟩
      · exact Or.inl ⟨by omega, h2⟩
      · exact Or.inr ⟨by omega, h2⟩

/-- A slice of structs of two whole numbers. -/
theorem Gd.pairs {f0 f1 : Field} (h : Gd enc P w base spare held t cs) (ht : P.underlying t = some (.slice e)) (he : P.underlying e = some (.struct #[f0, f1])) (hc : P.cellsOf e = 2) (hb : P.bytesOf e = 16)
    (h0 : P.underlying f0.type = some (.int .i64)) (h1 : P.underlying f1.type = some (.int .i64)) (o0 : f0.offset = 0) (o1 : f1.offset = 1) (c0 : P.cellsOf f0.type = 1) (c1 : P.cellsOf f1.type = 1) :
    ∃ v ps, cs = [v] ∧ RS w v 2 ps.length (prs ps) ∧ ps.length * 16 ≤ reachBytes ∧ ∀ p ∈ ps, (Lit.int .i64 p.1).wf = true ∧ (Lit.int .i64 p.2).wf = true := by
  obtain ⟨A, len, cap, rfl, hl, hw, hall⟩ := h.slice ht (by omega)
  rw [hb] at hw
  rw [hc] at hall
  obtain ⟨ps, hpl, hp⟩ := exists_list len (fun i (p : Int × Int) => ∃ b o, A = some ⟨b, o, none⟩ ∧ w.cell? ⟨b, o + i * 2 + 0, none⟩ = some (.int .i64 p.1) ∧ w.cell? ⟨b, o + i * 2 + 1, none⟩ = some (.int .i64 p.2) ∧ (Lit.int .i64 p.1).wf = true ∧ (Lit.int .i64 p.2).wf = true) (fun i hi => by
    obtain ⟨b, o, cs', g1, g2, g3, g4⟩ := hall i hi
    have k0 := g4.field he (i := 0) (f := f0) rfl
    have k1 := g4.field he (i := 1) (f := f1) rfl
    rw [o0, c0] at k0
    rw [o1, c1] at k1
    obtain ⟨x, hx, wx⟩ := k0.int h0
    obtain ⟨y, hy, wy⟩ := k1.int h1
    match cs', g2 with
    | [u, v], _ =>
      simp at hx hy
      subst hx; subst hy
      exact ⟨(x, y), b, o, g1, by rw [g3 0 (by omega)]; rfl, by rw [g3 1 (by omega)]; rfl, wx, wy⟩)
  refine ⟨_, ps, rfl, ⟨A, cap, by rw [hpl], by omega, prs_len ps, fun j u hu => ?_⟩, by rw [hpl]; exact hw, fun p hp' => ?_⟩
  · obtain ⟨i, p, hi, hj⟩ := prs_get ps j u hu
    obtain ⟨b, o, q1, q2, q3, _⟩ := hp i p hi
    rcases hj with ⟨rfl, rfl⟩ | ⟨rfl, rfl⟩
    · exact ⟨b, o, q1, by simpa using q2⟩
    · exact ⟨b, o, q1, by simpa [Nat.add_assoc] using q3⟩
  · obtain ⟨i, hi, rfl⟩ := List.getElem_of_mem hp'
    obtain ⟨_, _, _, _, _, q⟩ := hp i _ (List.getElem?_eq_getElem hi)
    exact q

/-- A slice of slices of whole numbers. -/
theorem Gd.rows {e2 : TypeId} (h : Gd enc P w base spare held t cs) (ht : P.underlying t = some (.slice e)) (he : P.underlying e = some (.slice e2)) (hc : P.cellsOf e = 1) (hb : P.bytesOf e = 24)
    (he2 : P.underlying e2 = some (.int .i64)) (hc2 : P.cellsOf e2 = 1) (hb2 : P.bytesOf e2 = 8) :
    ∃ v zss, cs = [v] ∧ RII w v zss ∧ zss.length * 24 ≤ reachBytes ∧ ∀ zs ∈ zss, zs.length * 8 ≤ reachBytes ∧ ∀ z ∈ zs, (Lit.int .i64 z).wf = true := by
  obtain ⟨A, len, cap, rfl, hl, hw, hall⟩ := h.slice ht (by omega)
  rw [hb] at hw
  rw [hc] at hall
  obtain ⟨zss, hzl, hz⟩ := exists_list len (fun i (zs : List Int) => ∃ b o u, A = some ⟨b, o, none⟩ ∧ w.cell? ⟨b, o + i * 1 + 0, none⟩ = some u ∧ RI w u zs ∧ zs.length * 8 ≤ reachBytes ∧ ∀ z ∈ zs, (Lit.int .i64 z).wf = true) (fun i hi => by
    obtain ⟨b, o, cs', h1, h2, h3, h4⟩ := hall i hi
    obtain ⟨u, zs, rfl, k1, k2, k3⟩ := h4.ints he he2 hc2 hb2
    exact ⟨zs, b, o, u, h1, by rw [h3 0 (by omega)]; rfl, k1, k2, k3⟩)
  refine ⟨_, zss, rfl, ⟨A, cap, by rw [hzl], by omega, fun k row hk => ?_⟩, by rw [hzl]; exact hw, fun zs hz' => ?_⟩
  · obtain ⟨b, o, u, q1, q2, q3, _⟩ := hz k row hk
    exact ⟨b, o, u, q1, by simpa using q2, q3⟩
  · obtain ⟨i, hi, rfl⟩ := List.getElem_of_mem hz'
    obtain ⟨_, _, _, _, _, _, q⟩ := hz i _ (List.getElem?_eq_getElem hi)
    exact q
end

theorem i64_bounds {n : Int} (h : (Lit.int .i64 n).wf = true) : -9223372036854775808 ≤ n ∧ n ≤ 9223372036854775807 := bounds_i64 h

end Go.Proofs.Ytliddinpfgpnfaa
