/- A statement whose order is open: what only looks is taken first, what acts comes alone. (Over the kit's own words on such statements, <Name>WLast.) -/
import Derived.Test.YtnkcmpmcmkljnaaDoorLst
import Derived.Test.YtnkcmpmcmkljnaaDoorWLast
set_option linter.unusedVariables false
set_option linter.unusedSimpArgs false
namespace Go.Proofs.YtnkcmpmcmkljnaaDoor
open Go.RowKit Go.Proofs.YtnkcmpmcmkljnaaDoorW.PrintLast

section
variable {P : Program} {W w w' : World} {N d : Nat} {a : Act} {ops : Array Oper} {Q : Exit → Act → World → Prop} {S : World → Prop} {ds : List Nat} {fuel : Nat} {L : Array Bool} {ps : String} {af : Array Edge}
  {l : List (Nat × Value)} {v : Value} {T : TypeId} {op : Op} {f : FuncId} {args : Array Value} {Φ : Value → World → Prop} {g : Option (Nat × Bool)}

def Won (ops : Array Oper) (l : List (Nat × Value)) : Option (Nat × Bool) → Prop
  | none => True
  | some (j, b) => ∃ oj t, ops[j]? = some oj ∧ oj.dst = some t ∧ lk l t = some (.bool b)
theorem won0 : Won ops l none := trivial
theorem won1 {j t : Nat} {b : Bool} {oj : Oper} (h1 : ops[j]? = some oj) (h2 : oj.dst = some t) (h3 : lk l t = some (.bool b)) : Won ops l (some (j, b)) := ⟨oj, t, h1, h2, h3⟩
theorem Won.wanted (h : Won ops l g) (ha : Has a N l) {dst : Option Tmp} : Region.wanted ⟨dst, op, T, ps, af, g⟩ (yielded ops a.tmps) = true := by
  match g, h with
  | none, _ => rfl
  | some (j, b), ⟨oj, t, h1, h2, h3⟩ =>
    have := ha.get t _ h3
    simp [Region.wanted, yielded, h1, h2, this]

theorem dStart {id n : Nat} (S : World → Prop) (ds : List Nat) (hm : P.follows .mixedOrders = true) (hn : ops.size = n) (hS : S w.drew)
    (h : wpAnyLast P .any ops Q S ds n (Array.replicate n false) a w.drew) : (Code.region id ops true).wp P Q a w :=
  start_ _ hm hn rfl hS fun _ => h
/-- What yields in every world. -/
theorem dP (i : Nat) (hi : ops[i]? = some ⟨some d, op, T, ps, af, g⟩) (hc : anyB .any ops L (L.setIfInBounds i true) i = true) (ha : Has a N l) (hg : Won ops l g) (hy : ∀ w, Yl P w l op T v) (hd : Nat.blt d N = true)
    (hQ : ∀ c a w, Q (.panic c) (a.put (some d) v) w → Q (.panic c) a w) (h : ∀ a, Has a N ((d, v) :: l) → wpAnyLast P .any ops Q S ds fuel (L.setIfInBounds i true) a w) : wpAnyLast P .any ops Q S ds (fuel + 1) L a w :=
  pure_ _ hi rfl hc hQ (.inl ⟨hg.wanted ha, fun w => hy w _ _ ha.Ev rfl rfl⟩) rfl (h _ (ha.put v hd))
/-- What yields in every world that meets S. -/
theorem dT (i : Nat) (hi : ops[i]? = some ⟨some d, op, T, ps, af, g⟩) (hc : takeB .any ops ds L (L.setIfInBounds i true) i = true) (ha : Has a N l) (hg : Won ops l g) (hy : ∀ w, S w → Yl P w l op T v) (hS : S w) (hd : Nat.blt d N = true)
    (hQ : ∀ c a w, Q (.panic c) (a.put (some d) v) w → Q (.panic c) a w) (h : ∀ a, Has a N ((d, v) :: l) → wpAnyLast P .any ops Q S ds fuel (L.setIfInBounds i true) a w) : wpAnyLast P .any ops Q S ds (fuel + 1) L a w :=
  take_ _ hi rfl hc hQ (.inl ⟨hg.wanted ha, fun w hs => hy w hs _ _ ha.Ev rfl rfl⟩) hS rfl (h _ (ha.put v hd))
/-- What isn't carried out: its guard says no. -/
theorem dOff (i : Nat) {j t : Nat} {b c : Bool} {oj : Oper} (hi : ops[i]? = some ⟨some d, op, T, ps, af, some (j, b)⟩) (hc : anyB .any ops L (L.setIfInBounds i true) i = true) (ha : Has a N l) (h1 : ops[j]? = some oj) (h2 : oj.dst = some t) (h3 : lk l t = some (.bool c)) (hbc : (c == b) = false) (hd : Nat.blt d N = true)
    (hQ : ∀ c a w, Q (.panic c) (a.put (some d) undef) w → Q (.panic c) a w) (h : ∀ a, Has a N ((d, undef) :: l) → wpAnyLast P .any ops Q S ds fuel (L.setIfInBounds i true) a w) : wpAnyLast P .any ops Q S ds (fuel + 1) L a w := by
  have hw : Region.wanted ⟨some d, op, T, ps, af, some (j, b)⟩ (yielded ops a.tmps) = false := by
    have := ha.get t _ h3
    simp [Region.wanted, yielded, h1, h2, this]
    simpa using hbc
  exact pure_ _ hi rfl hc hQ (.inr ⟨hw, rfl⟩) rfl (h _ (ha.put _ hd))
theorem dOffU (i : Nat) {j t : Nat} {b : Bool} {oj : Oper} (hi : ops[i]? = some ⟨some d, op, T, ps, af, some (j, b)⟩) (hc : anyB .any ops L (L.setIfInBounds i true) i = true) (ha : Has a N l) (h1 : ops[j]? = some oj) (h2 : oj.dst = some t) (h3 : lk l t = some undef) (hd : Nat.blt d N = true)
    (hQ : ∀ c a w, Q (.panic c) (a.put (some d) undef) w → Q (.panic c) a w) (h : ∀ a, Has a N ((d, undef) :: l) → wpAnyLast P .any ops Q S ds fuel (L.setIfInBounds i true) a w) : wpAnyLast P .any ops Q S ds (fuel + 1) L a w := by
  have hw : Region.wanted ⟨some d, op, T, ps, af, some (j, b)⟩ (yielded ops a.tmps) = false := by
    have := ha.get t _ h3
    simp [Region.wanted, yielded, h1, h2, this, undef]
  exact pure_ _ hi rfl hc hQ (.inr ⟨hw, rfl⟩) rfl (h _ (ha.put _ hd))
/-- A call, alone; S holds behind it. -/
theorem dC (i : Nat) (hi : ops[i]? = some ⟨some d, op, T, ps, af, g⟩) (hc : readyB .any ops L (L.setIfInBounds i true) i = true) (hds : ds.contains i = false) (ha : Has a N l) (hg : Won ops l g) (hy : En P w l op T f args) (hd : Nat.blt d N = true) (hcall : Calls P f args w (Rt Φ))
    (h : ∀ v w', Φ v w' → S w' ∧ ∀ a, Has a N ((d, v) :: l) → wpAnyLast P .any ops Q S ds fuel (L.setIfInBounds i true) a w') : wpAnyLast P .any ops Q S ds (fuel + 1) L a w :=
  one_ _ hi rfl hc (by simpa using hds) fun K hK => call_ f args (hg.wanted ha) rfl (hy _ _ ha.Ev rfl rfl) (hcall.mono fun e w'' he => by
    cases e with
    | returned v =>
      obtain ⟨hS, hh⟩ := h v w'' he
      exact ⟨v, rfl, hK _ _ hS fun _ => hh _ (ha.put v hd)⟩
    | panicked c => exact he.elim
    | outgrown => exact he.elim)
/-- A call, alone, behind which nothing looks any more. -/
theorem dCl (i : Nat) (hi : ops[i]? = some ⟨some d, op, T, ps, af, g⟩) (hc : readyB .any ops L (L.setIfInBounds i true) i = true) (hds : ds.contains i = true) (ha : Has a N l) (hg : Won ops l g) (hy : En P w l op T f args) (hd : Nat.blt d N = true) (hcall : Calls P f args w (Rt Φ))
    (h : ∀ v w', Φ v w' → ∀ a, Has a N ((d, v) :: l) → wpAnyLast P .any ops Q S ds fuel (L.setIfInBounds i true) a w') : wpAnyLast P .any ops Q S ds (fuel + 1) L a w :=
  last_ _ hi rfl hc (by simpa using hds) fun K hK => call_ f args (hg.wanted ha) rfl (hy _ _ ha.Ev rfl rfl) (hcall.mono fun e w'' he => by
    cases e with
    | returned v => exact ⟨v, rfl, hK _ _ (h v w'' he _ (ha.put v hd))⟩
    | panicked c => exact he.elim
    | outgrown => exact he.elim)
/-- What makes memory, alone; S holds behind it. -/
theorem dE (i : Nat) (hi : ops[i]? = some ⟨some d, op, T, ps, af, g⟩) (hc : readyB .any ops L (L.setIfInBounds i true) i = true) (hds : ds.contains i = false) (ha : Has a N l) (hg : Won ops l g) (hy : Ef P w l op T v w') (hd : Nat.blt d N = true)
    (hS : S w') (h : ∀ a, Has a N ((d, v) :: l) → wpAnyLast P .any ops Q S ds fuel (L.setIfInBounds i true) a w') : wpAnyLast P .any ops Q S ds (fuel + 1) L a w :=
  one_ _ hi rfl hc (by simpa using hds) fun K hK => value_ (hg.wanted ha) rfl (hy _ _ ha.Ev rfl rfl) (hK _ _ hS fun _ => h _ (ha.put v hd))
theorem dEl (i : Nat) (hi : ops[i]? = some ⟨some d, op, T, ps, af, g⟩) (hc : readyB .any ops L (L.setIfInBounds i true) i = true) (hds : ds.contains i = true) (ha : Has a N l) (hg : Won ops l g) (hy : Ef P w l op T v w') (hd : Nat.blt d N = true)
    (h : ∀ a, Has a N ((d, v) :: l) → wpAnyLast P .any ops Q S ds fuel (L.setIfInBounds i true) a w') : wpAnyLast P .any ops Q S ds (fuel + 1) L a w :=
  last_ _ hi rfl hc (by simpa using hds) fun K hK => value_ (hg.wanted ha) rfl (hy _ _ ha.Ev rfl rfl) (hK _ _ (h _ (ha.put v hd)))
/-- A store, alone, behind which nothing looks any more. -/
theorem dSl (i : Nat) (hi : ops[i]? = some ⟨none, op, T, ps, af, g⟩) (hc : readyB .any ops L (L.setIfInBounds i true) i = true) (hds : ds.contains i = true) (ha : Has a N l) (hg : Won ops l g) (hy : Sk P w l op T w')
    (h : wpAnyLast P .any ops Q S ds fuel (L.setIfInBounds i true) a w') : wpAnyLast P .any ops Q S ds (fuel + 1) L a w :=
  last_ _ hi rfl hc (by simpa using hds) fun K hK => skip_ (hg.wanted ha) rfl (hy _ _ ha.Ev rfl rfl) (hK _ _ h)
theorem dZ {n : Nat} (hr : (Region.ready .any ops L == []) = true) (h : Q .normal a w) : wpAnyLast P .any ops Q S ds n L a w := done_ hr h
section
variable {cs r r2 r3 : List Ch} {α : Type} {k : Kd α} {xs ys : List α} {E U U' : TypeId} {bytes n c b off : Nat} {v2 u : Value} {x y : Operand} {es vs : List Value} {A : Option Addr}
theorem eApp1 {e : α} {sz : Nat} (he' : ElemT P U E sz bytes) (hx : ev l x = some v) (hy : ev l y = some (.slice (some ⟨b, 0, none⟩) 1 1)) (hs : Sep W w cs) (hk : Pick cs (.ol k E v xs) r) (hk2 : Pick r (.blk b E es) r2) (hk3 : Pick r2 (.el k e es) r3)
    (hsz : k.sz = sz) (hm : xs.length + 1 ≤ maxLen) (hb : (xs.length + 1) * bytes ≤ 140737488355328) :
    ∃ A c w', Ef P w l (.call { callee := .builtin .append, args := #[x, y], argTypes := #[U, U] }) T (.slice A (xs.length + 1) c) w' ∧ Sep W w' (.ol k E (.slice A (xs.length + 1) c) (xs ++ [e]) :: r3) := by
  have he : ElemT P U E k.sz bytes := hsz ▸ he'
  have hblk := (hs.perm hk.perm).own_at (.there hk2)
  have h0 := (((hs.perm hk.perm).perm (hk2.perm.cons _)).perm ((hk3.perm.cons _).cons _))
  have hR := h0.know (.there (.there .here)) (fun Z _ hp => (⟨k.len hp, k.one hp⟩ : es.length = k.sz ∧ ∀ u ∈ es, u.oneCell' = true))
  have h1 := (h0.perm (List.Perm.swap _ _ _)).drop
  have h2 := (h1.perm (List.Perm.swap _ _ _)).imp (x := .ro (fun Z => k.behind Z es [e]) (fun _ _ h => k.newsM h)) (fun Z _ _ hp i y hi => by
    have : i = 0 ∧ y = e := by
      cases i with
      | zero => simpa using hi.symm
      | succ i => simp at hi
    obtain ⟨rfl, rfl⟩ := this
    exact ⟨es, hp, fun j u hj => by simpa using hj⟩)
  obtain ⟨v', w', hr, h3⟩ := append_own (ty := T) (ys := [e]) (xv := .slice (some ⟨b, 0, none⟩) 1 1) he he.noInt (h2.perm (List.Perm.swap _ _ _)) (fun w => by simp [Builtin.lenOf]) (fun n => by
    refine run_firstCells_some _ k.sz 1 _ _ _ _ (by simp [hR.1]) (fun j u hj => ?_)
    rw [add_at, Nat.zero_add]
    show (match w.heap[b]? with | some (.cells c _ _) => _ | _ => _) = _
    rw [hblk]
    simpa using hj) (by simp [hR.1]) hR.2 hm hb
  obtain ⟨A, c, rfl, _⟩ := h3.ol_len .here
  rw [List.length_append] at h3 hr
  exact ⟨A, c, w', fun ρ o hE ho hT => by
    unfold execOp; rw [ho]
    simp [resolve, invoke, builtin, hE _ _ hx, hE _ _ hy, hT, hr], h3⟩
theorem eAppRd {sz : Nat} (he' : ElemT P U E sz bytes) (hx : ev l x = some v) (hy : ev l y = some (.slice A n c)) (hs : Sep W w cs) (hk : Pick cs (.ol k E v xs) r) (hk2 : Pick r (.rd k (.slice A n c) ys) r2)
    (hsz : k.sz = sz) (hm : xs.length + ys.length ≤ maxLen) (hb : (xs.length + ys.length) * bytes ≤ 140737488355328) :
    ∃ A' c' w', Ef P w l (.call { callee := .builtin .append, args := #[x, y], argTypes := #[U, U] }) T (.slice A' (xs.length + ys.length) c') w' ∧ Sep W w' (.ol k E (.slice A' (xs.length + ys.length) c') (xs ++ ys) :: r) := by
  have he : ElemT P U E k.sz bytes := hsz ▸ he'
  obtain ⟨hn, es, h1, h2, h3, h4⟩ := Sep.rd_news (P := P) he.2.1 (hs.perm hk.perm) (.there hk2)
  subst hn
  obtain ⟨v', w', hr, h5⟩ := append_own (ty := T) (xv := .slice A ys.length c) he he.noInt (h4.perm (List.Perm.swap _ _ _)) (fun w => by simp [Builtin.lenOf]) h3 h1 h2 hm hb
  obtain ⟨A', c', rfl, _⟩ := h5.ol_len .here
  rw [List.length_append] at h5 hr
  exact ⟨A', c', w', fun ρ o hE ho hT => by
    unfold execOp; rw [ho]
    simp [resolve, invoke, builtin, hE _ _ hx, hE _ _ hy, hT, hr], h5⟩
theorem dApp1l {e : α} (i : Nat) (hi : ops[i]? = some ⟨some d, .call { callee := .builtin .append, args := #[x, y], argTypes := #[U, U] }, T, ps, af, g⟩) (hc : readyB .any ops L (L.setIfInBounds i true) i = true) (hds : ds.contains i = true) (ha : Has a N l) (hg : Won ops l g)
    {sz : Nat} (he' : ElemT P U E sz bytes) (hx : ev l x = some v) (hy : ev l y = some (.slice (some ⟨b, 0, none⟩) 1 1)) (hs : Sep W w cs) (hk : Pick cs (.ol k E v xs) r) (hk2 : Pick r (.blk b E es) r2) (hk3 : Pick r2 (.el k e es) r3)
    (hsz : k.sz = sz) (hm : xs.length + 1 ≤ maxLen) (hb : (xs.length + 1) * bytes ≤ 140737488355328) (hd : Nat.blt d N = true)
    (h : ∀ A c w, Sep W w (.ol k E (.slice A (xs.length + 1) c) (xs ++ [e]) :: r3) → ∀ a, Has a N ((d, .slice A (xs.length + 1) c) :: l) → wpAnyLast P .any ops Q S ds fuel (L.setIfInBounds i true) a w) : wpAnyLast P .any ops Q S ds (fuel + 1) L a w := by
  obtain ⟨A, c, w', h1, h2⟩ := eApp1 (T := T) he' hx hy hs hk hk2 hk3 hsz hm hb
  exact dEl i hi hc hds ha hg h1 hd fun a ha => h A c w' h2 a ha
theorem dApp1Fl {e : α} (i : Nat) (hi : ops[i]? = some ⟨some d, .call { callee := .builtin .append, args := #[x, y], argTypes := #[U, U] }, T, ps, af, g⟩) (hc : readyB .any ops L (L.setIfInBounds i true) i = true) (hds : ds.contains i = true) (ha : Has a N l) (hg : Won ops l g)
    {sz : Nat} (he' : ElemT P U E sz bytes) (hx : ev l x = some v) (hy : ev l y = some (.slice (some ⟨b, 0, none⟩) 1 1)) (hs : Sep W w cs) (hk : Pick cs (.ol k E v xs) r) (hk2 : Pick r (.blk b E es) r2) (hR : ∀ Z, k.R Z e es)
    (hsz : k.sz = sz) (hm : xs.length + 1 ≤ maxLen) (hb : (xs.length + 1) * bytes ≤ 140737488355328) (hd : Nat.blt d N = true)
    (h : ∀ A c w, Sep W w (.ol k E (.slice A (xs.length + 1) c) (xs ++ [e]) :: r2) → ∀ a, Has a N ((d, .slice A (xs.length + 1) c) :: l) → wpAnyLast P .any ops Q S ds fuel (L.setIfInBounds i true) a w) : wpAnyLast P .any ops Q S ds (fuel + 1) L a w :=
  dApp1l i hi hc hds ha hg he' hx hy (hs.add (x := .el k e es) hR) (.there hk) (.there hk2) .here hsz hm hb hd h
theorem dAppRdl (i : Nat) (hi : ops[i]? = some ⟨some d, .call { callee := .builtin .append, args := #[x, y], argTypes := #[U, U] }, T, ps, af, g⟩) (hc : readyB .any ops L (L.setIfInBounds i true) i = true) (hds : ds.contains i = true) (ha : Has a N l) (hg : Won ops l g)
    {sz : Nat} (he' : ElemT P U E sz bytes) (hx : ev l x = some v) (hy : ev l y = some (.slice A n c)) (hs : Sep W w cs) (hk : Pick cs (.ol k E v xs) r) (hk2 : Pick r (.rd k (.slice A n c) ys) r2)
    (hsz : k.sz = sz) (hm : xs.length + ys.length ≤ maxLen) (hb : (xs.length + ys.length) * bytes ≤ 140737488355328) (hd : Nat.blt d N = true)
    (h : ∀ A c w, Sep W w (.ol k E (.slice A (xs.length + ys.length) c) (xs ++ ys) :: r) → ∀ a, Has a N ((d, .slice A (xs.length + ys.length) c) :: l) → wpAnyLast P .any ops Q S ds fuel (L.setIfInBounds i true) a w) : wpAnyLast P .any ops Q S ds (fuel + 1) L a w := by
  obtain ⟨A, c, w', h1, h2⟩ := eAppRd (T := T) he' hx hy hs hk hk2 hsz hm hb
  exact dEl i hi hc hds ha hg h1 hd fun a ha => h A c w' h2 a ha
theorem dMakel (i : Nat) (hi : ops[i]? = some ⟨some d, op, T, ps, af, g⟩) (hc : readyB .any ops L (L.setIfInBounds i true) i = true) (hds : ds.contains i = true) (ha : Has a N l) (hg : Won ops l g) (hm : Mk P w l op T E n es) (hs : Sep W w cs) (hd : Nat.blt d N = true)
    (h : ∀ b w, Sep W w (.blk b E es :: cs) → ∀ a, Has a N ((d, .slice (some ⟨b, 0, none⟩) n n) :: l) → wpAnyLast P .any ops Q S ds fuel (L.setIfInBounds i true) a w) : wpAnyLast P .any ops Q S ds (fuel + 1) L a w :=
  dEl i hi hc hds ha hg (fun ρ o he h1 h2 => hm ρ o he h1 h2) hd fun a ha => h _ _ (by have := hs.blk_alloc es.toArray E; simpa using this) a ha
theorem dMake (i : Nat) (hi : ops[i]? = some ⟨some d, op, T, ps, af, g⟩) (hc : readyB .any ops L (L.setIfInBounds i true) i = true) (hds : ds.contains i = false) (ha : Has a N l) (hg : Won ops l g) (hm : Mk P w l op T E n es) (hs : Sep W w cs) (hd : Nat.blt d N = true)
    (hS : ∀ b w, Sep W w (.blk b E es :: cs) → S w) (h : ∀ b w, Sep W w (.blk b E es :: cs) → ∀ a, Has a N ((d, .slice (some ⟨b, 0, none⟩) n n) :: l) → wpAnyLast P .any ops Q S ds fuel (L.setIfInBounds i true) a w) : wpAnyLast P .any ops Q S ds (fuel + 1) L a w := by
  have h2 : Sep W (w.alloc (.cells es.toArray E)) (.blk w.heap.size E es :: cs) := by have := hs.blk_alloc es.toArray E; simpa using this
  exact dE i hi hc hds ha hg (fun ρ o he h1 h2 => hm ρ o he h1 h2) hd (hS _ _ h2) fun a ha => h _ _ h2 a ha
theorem dStorel (i : Nat) (hi : ops[i]? = some ⟨none, .store U x y, T, ps, af, g⟩) (hc : readyB .any ops L (L.setIfInBounds i true) i = true) (hds : ds.contains i = true) (ha : Has a N l) (hg : Won ops l g)
    (hz : ∀ w, (sizeOf U).run P w = .ok 1 w) (hs : Sep W w cs) (hx : ev l x = some (.pointer (some ⟨b, off, none⟩))) (hy : ev l y = some v) (hv : v.cells = #[v]) (h1 : v.oneCell' = true) (hk : Pick cs (.blk b E vs) r) (ho : vs[off]? = some u)
    (h : ∀ w', Sep W w' (.blk b E (vs.set off v) :: r) → wpAnyLast P .any ops Q S ds fuel (L.setIfInBounds i true) a w') : wpAnyLast P .any ops Q S ds (fuel + 1) L a w :=
  let ⟨h2, h3⟩ := sStore (P := P) (T := T) (l := l) hz hs hx hy hv h1 hk ho
  dSl i hi hc hds ha hg h2 (h _ h3)
end
end
end Go.Proofs.YtnkcmpmcmkljnaaDoor
