/- Types of values; functions alike from type to type, each kind once; no condition. -/
import Derived.Test.YtiejaibmcmicoaaGreatDoorAmX
import Derived.Test.YtiejaibmcmicoaaGreatDoorAmU
import Derived.Test.YtiejaibmcmicoaaGreatDoorAmT
namespace Go.Proofs.YtiejaibmcmicoaaGreatDoor.Am
open Go
set_option linter.unusedSimpArgs false
set_option linter.unusedVariables false
attribute [local congr] T_congr callK_congr callWK_congr
attribute [local simp] run_nil run_op0 run_opg run_seq run_cond run_block run_ret run_skip run_skip_after run_skip_blk run_exit run_exit_after run_exit_blk run_loop run_any runS_nil runS_op0 runS_opg exec_q exec_w exec_c exec_n rest_app restS_app execS_q execS_c aval dOk upd_app ev_t ev_c setO_some setO_none put_mk pinsOf isIo hasIo sbin endR fin resL one outL out1 clo1 cloL coe coeL shut shut.shutL wantA weff cellsOf fillA deref natOf ρ0_app h0_app plain plain.plainL keep_app keepH_app andThen_normal andThen_ret andThen_exit pop_nil pop_after pop_after_ret pop_after_exit pop_blk pop_blk_ret pop_blk_exit
def OwnC (c : AV) : Prop := (∃ cs len sz, c = .own cs len sz ∧ cs.length = len * sz ∧ idfree.idfreeL cs = true ∧ flt.fltL cs = true) ∨ ∃ v, c = .sc v
def wtL {α : Type} (wt : α → Nat) : List α → Nat
  | [] => 0
  | x :: xs => wt x + wtL wt xs
structure Ty (α : Type) where
  n : Nat
  cs : α → List AV
  oc : α → List AV
  z : List AV
  bytes : Nat
  ok : α → Prop
  wt : α → Nat
  d : Nat
  shape : Sh
  csn : ∀ x, (cs x).length = n
  ocn : ∀ x, (oc x).length = n
  zn : z.length = n
  sh : ∀ x, ∀ c ∈ cs x, shut c = true
  ow : ∀ x, ∀ c ∈ oc x, OwnC c
  zi : ∀ c ∈ z, idfree c = true
  rc : ∀ h k x, d ≤ k → (oc x).mapM (roc h k) = some (cs x)
  is : ∀ l, Is shape l → ∃ x, l = cs x ∧ ok x
theorem OwnC.fr {c : AV} (h : OwnC c) : idfree c = true := by
  rcases h with ⟨cs, len, sz, rfl, _, h, _⟩ | ⟨v, rfl⟩
  · exact h
  · rfl
theorem OwnC.fl {c : AV} (h : OwnC c) : flt c = true := by
  rcases h with ⟨cs, len, sz, rfl, _, _, h⟩ | ⟨v, rfl⟩
  · exact h
  · rfl
mutual
theorem shut_plain : ∀ {c : AV}, shut c = true → plain c = true
  | .agg cs, h => shutL_plainL cs h
  | .tup cs, h => shutL_plainL cs h
  | .clo _ cs, h => shutL_plainL cs h
  | .un, _ => rfl
  | .sc _, _ => rfl
  | .em, _ => rfl
  | .ro .., _ => rfl
  | .rp .., _ => rfl
  | .ref .., _ => rfl
  | .sl .., _ => rfl
  | .pf .., _ => rfl
  | .own .., h => h
  | .io .., h => h
  | .bx .., h => h
theorem shutL_plainL : ∀ (l : List AV), shut.shutL l = true → plain.plainL l = true
  | [], _ => rfl
  | x :: l, h => by
    simp only [shut.shutL, Bool.and_eq_true] at h
    simp only [plain.plainL, Bool.and_eq_true]
    exact ⟨shut_plain h.1, shutL_plainL l h.2⟩
end
theorem shutL_plain {l : List AV} (h : ∀ c ∈ l, shut c = true) : plain.plainL l = true := plainL_of fun c hc => shut_plain (h c hc)
theorem roc_sh {h : Hp} {k : Nat} {x : AV} (hs : shut x = true) : roc h k x = some x := by cases k <;> simp only [roc, if_pos hs]
theorem roc_sc {h : Hp} {k : Nat} {v : Value} : roc h k (.sc v) = some (.sc v) := roc_sh rfl
theorem roc_ro {h : Hp} {k : Nat} {cs : List AV} {n : Nat} : roc h k (.ro cs n) = some (.ro cs n) := roc_sh rfl
theorem roc_agg {h : Hp} {k : Nat} {cs : List AV} (hs : shut.shutL cs = true) : roc h k (.agg cs) = some (.agg cs) := roc_sh hs
section
variable {α : Type} (t : Ty α)
theorem Ty.shL (x : α) : shut.shutL (t.cs x) = true := shutL_of (t.sh x)
theorem Ty.plL (x : α) : plain.plainL (t.cs x) = true := shutL_plain (t.sh x)
theorem Ty.tk (x : α) (l : List AV) : (t.cs x ++ l).take t.n = t.cs x := by rw [← t.csn x]; simp
theorem Ty.flo (xs : List α) : flt (.own (rows t.oc xs) xs.length t.n) = true := by
  have := fltL_rows (f := t.oc) (fun x c hc => (t.ow x c hc).fl) xs
  simpa [flt] using this
theorem Ty.frL (xs : List α) : idfree.idfreeL (rows t.oc xs) = true := idfreeL_rows (fun x c hc => (t.ow x c hc).fr) xs
theorem Ty.rcs (h : Hp) {k : Nat} (hk : t.d ≤ k) (xs : List α) : (rows t.oc xs).mapM (roc h k) = some (rows t.cs xs) := by
  induction xs with
  | nil => rfl
  | cons x xs ih => rw [rows_cons, rows_cons, List.mapM_append, t.rc h k x hk, ih]; rfl
theorem Ty.roc {h : Hp} {b k : Nat} {xs : List α} {lim : Bool} (hd : t.d ≤ k) (hb : h b = some (some (rows t.oc xs))) : Am.roc h (k + 1) (.sl b 0 xs.length t.n lim) = some (.ro (rows t.cs xs) xs.length) := by
  unfold Am.roc
  rw [if_neg (by simp)]
  simp only [hb]
  have hl : 0 + xs.length * t.n ≤ (rows t.oc xs).length := by rw [rows_length t.ocn]; omega
  rw [if_pos hl]
  have ht : (List.drop 0 (rows t.oc xs)).take (xs.length * t.n) = rows t.oc xs := by rw [List.drop_zero, List.take_of_length_le (by rw [rows_length t.ocn]; exact Nat.le_refl _)]
  rw [ht]
  have hm := t.rcs h hd xs
  split
  · rename_i hs
    -- all shut: read as it is
    have : ∀ (l ys : List AV), shut.shutL l = true → l.mapM (Am.roc h k) = some ys → ys = l := by
      intro l
      induction l with
      | nil => intro ys _ e; simp at e; exact e
      | cons c l ih =>
        intro ys hs e
        simp only [shut.shutL, Bool.and_eq_true] at hs
        simp only [List.mapM_cons, Option.bind_eq_bind, Option.bind_eq_some_iff, Option.pure_def, Option.some.injEq] at e
        obtain ⟨y, hy, ys', hys, rfl⟩ := e
        have : y = c := by cases k <;> simp only [Am.roc, if_pos hs.1, Option.some.injEq] at hy <;> exact hy.symm
        rw [this, ih ys' hs.2 hys]
    rw [this _ _ hs hm]
  · rw [hm]; rfl
end
def Ty.str : Ty ByteArray where
  n := 1
  cs s := [.sc (.string s)]
  oc s := [.sc (.string s)]
  z := [.sc (.string ⟨#[]⟩)]
  bytes := 16
  ok s := s.size ≤ 140737488351232
  wt s := s.size
  d := 0
  shape := .str
  csn _ := rfl
  ocn _ := rfl
  zn := rfl
  sh := by simp
  ow x c h := by simp at h; subst h; exact .inr ⟨_, rfl⟩
  zi := by simp [idfree]
  rc h k x _ := by simp [roc_sc]
  is l h := by obtain ⟨s, h1, rfl⟩ := h; exact ⟨s, rfl, h1⟩
def Ty.int : Ty Int where
  n := 1
  cs n := [.sc (.int .i64 n)]
  oc n := [.sc (.int .i64 n)]
  z := [.sc (.int .i64 0)]
  bytes := 8
  ok n := -9223372036854775808 ≤ n ∧ n ≤ 9223372036854775807
  wt _ := 0
  d := 0
  shape := .int .i64
  csn _ := rfl
  ocn _ := rfl
  zn := rfl
  sh := by simp
  ow x c h := by simp at h; subst h; exact .inr ⟨_, rfl⟩
  zi := by simp [idfree]
  rc h k x _ := by simp [roc_sc]
  is l h := by
    obtain ⟨n, h1, rfl⟩ := h
    refine ⟨n, rfl, ?_⟩
    simp [Lit.wf, IntKind.min, IntKind.max, IntKind.signed, IntKind.bits] at h1
    omega
def Ty.byte : Ty Int where
  n := 1
  cs n := B n
  oc n := B n
  z := [.sc (.int .u8 0)]
  bytes := 1
  ok n := 0 ≤ n ∧ n ≤ 255
  wt _ := 0
  d := 0
  shape := .int .u8
  csn _ := rfl
  ocn _ := rfl
  zn := rfl
  sh := by simp [B]
  ow x c h := by simp [B] at h; subst h; exact .inr ⟨_, rfl⟩
  zi := by simp [idfree]
  rc h k x _ := by simp [B, roc_sc]
  is l h := by
    obtain ⟨n, h1, rfl⟩ := h
    refine ⟨n, rfl, ?_⟩
    simp [Lit.wf, IntKind.min, IntKind.max, IntKind.signed, IntKind.bits] at h1
    omega
def Ty.bool : Ty Bool where
  n := 1
  cs b := [.sc (.bool b)]
  oc b := [.sc (.bool b)]
  z := [.sc (.bool false)]
  bytes := 1
  ok _ := True
  wt _ := 0
  d := 0
  shape := .bool
  csn _ := rfl
  ocn _ := rfl
  zn := rfl
  sh := by simp
  ow x c h := by simp at h; subst h; exact .inr ⟨_, rfl⟩
  zi := by simp [idfree]
  rc h k x _ := by simp [roc_sc]
  is l h := by obtain ⟨b, rfl⟩ := h; exact ⟨b, rfl, trivial⟩
theorem Ty.rowsIs {α : Type} (t : Ty α) : ∀ rs : List (List AV), (∀ r ∈ rs, Is t.shape r) → ∃ xs : List α, rs = xs.map t.cs ∧ ∀ x ∈ xs, t.ok x
  | [], _ => ⟨[], rfl, by simp⟩
  | r :: rs, h => by
    obtain ⟨xs, rfl, h1⟩ := t.rowsIs rs fun r hr => h r (by simp [hr])
    obtain ⟨x, rfl, h2⟩ := t.is r (h r (by simp))
    exact ⟨x :: xs, rfl, fun y hy => (List.mem_cons.1 hy).elim (fun e => e ▸ h2) (h1 y)⟩
def Ty.slice {α : Type} (t : Ty α) : Ty (List α) where
  n := 1
  cs l := [.ro (rows t.cs l) l.length]
  oc l := [.own (rows t.oc l) l.length t.n]
  z := [.em]
  bytes := 24
  ok l := l.length * t.bytes ≤ 140737488351232 ∧ ∀ x ∈ l, t.ok x
  wt l := l.length + wtL t.wt l
  d := t.d + 1
  shape := .slice t.bytes t.n t.shape
  csn _ := rfl
  ocn _ := rfl
  zn := rfl
  sh := by simp
  ow l c h := by
    simp at h
    subst h
    exact .inl ⟨_, _, _, rfl, rows_length t.ocn l, idfreeL_rows (fun x c hc => (t.ow x c hc).fr) l, by have := t.flo l; simpa [flt] using this⟩
  zi := by simp [idfree]
  rc h k l hk := by
    obtain ⟨k, rfl⟩ : ∃ k', k = k' + 1 := ⟨k - 1, by omega⟩
    have e : Am.roc h (k + 1) (.own (rows t.oc l) l.length t.n) = ((rows t.oc l).mapM (Am.roc h k)).map fun ys => .ro ys l.length := rfl
    rw [List.mapM_cons, e, t.rcs h (by omega)]
    rfl
  is l h := by
    obtain ⟨rs, rfl, hb, h⟩ := h
    obtain ⟨xs, rfl, hx⟩ := t.rowsIs rs h
    refine ⟨xs, by simp [rows], ?_, hx⟩
    have : reachBytes = 140737488351232 := rfl
    rw [this] at hb
    simpa using hb
theorem str_ocl (xs : List ByteArray) : (rows Ty.str.oc xs).length = xs.length := by rw [rows_length Ty.str.ocn]; exact Nat.mul_one _
def Ty.nil : Ty Unit where
  n := 0
  cs _ := []
  oc _ := []
  z := []
  bytes := 0
  ok _ := True
  wt _ := 0
  d := 0
  shape := .nil
  csn _ := rfl
  ocn _ := rfl
  zn := rfl
  sh := by simp
  ow := by simp
  zi := by simp
  rc h k x _ := rfl
  is l h := ⟨(), h, trivial⟩
def Ty.cons {α β : Type} (t : Ty α) (r : Ty β) : Ty (α × β) where
  n := t.n + r.n
  cs x := t.cs x.1 ++ r.cs x.2
  oc x := t.oc x.1 ++ r.oc x.2
  z := t.z ++ r.z
  bytes := 0
  ok x := t.ok x.1 ∧ r.ok x.2
  wt x := t.wt x.1 + r.wt x.2
  d := max t.d r.d
  shape := .cons t.shape r.shape
  csn x := by rw [List.length_append, t.csn, r.csn]
  ocn x := by rw [List.length_append, t.ocn, r.ocn]
  zn := by rw [List.length_append, t.zn, r.zn]
  sh x c h := (List.mem_append.1 h).elim (t.sh x.1 c) (r.sh x.2 c)
  ow x c h := (List.mem_append.1 h).elim (t.ow x.1 c) (r.ow x.2 c)
  zi c h := (List.mem_append.1 h).elim (t.zi c) (r.zi c)
  rc h k x hk := by rw [List.mapM_append, t.rc h k x.1 (by omega), r.rc h k x.2 (by omega)]; rfl
  is l h := by
    obtain ⟨l1, l2, rfl, h1, h2⟩ := h
    obtain ⟨x, rfl, hx⟩ := t.is l1 h1
    obtain ⟨y, rfl, hy⟩ := r.is l2 h2
    exact ⟨(x, y), rfl, hx, hy⟩
def Ty.struct {β γ : Type} (r : Ty β) (f : γ → β) (g : β → γ) (hfg : ∀ b, f (g b) = b) (bytes : Nat) : Ty γ where
  n := r.n
  cs x := r.cs (f x)
  oc x := r.oc (f x)
  z := r.z
  bytes := bytes
  ok x := r.ok (f x)
  wt x := r.wt (f x)
  d := r.d
  shape := .struct r.shape
  csn x := r.csn _
  ocn x := r.ocn _
  zn := r.zn
  sh x := r.sh _
  ow x := r.ow _
  zi := r.zi
  rc h k x hk := r.rc h k _ hk
  is l h := by
    obtain ⟨y, rfl, hy⟩ := r.is l h
    exact ⟨g y, by rw [hfg], by rw [hfg]; exact hy⟩
theorem roc_ref {h : Hp} {b off : Nat} {cs : List AV} (hb : h b = some (some cs)) (hs : shut.shutL cs = true) : roc h 8 (.ref b off) = some (.rp cs off) := by
  rw [roc, if_neg (by simp [shut])]
  simp only [hb]
  rw [if_pos hs]
theorem merge_nil (h h' : Hp) : merge [] h h' = h' := by funext b; simp [merge]
theorem hideH_nil (h : Hp) : hideH [] h = h := by funext b; simp [hideH]
theorem mapM_shut {h : Hp} {k : Nat} : ∀ {l : List AV}, shut.shutL l = true → l.mapM (roc h k) = some l
  | [], _ => rfl
  | c :: l, hs => by
    simp only [shut.shutL, Bool.and_eq_true] at hs
    rw [List.mapM_cons, roc_sh hs.1, mapM_shut hs.2]; rfl
theorem Ty.roc7 {α : Type} (t : Ty α) (hd : t.d ≤ 6) {h : Hp} {b : Nat} {xs : List α} {lim : Bool} (hb : h b = some (some (rows t.oc xs))) : Am.roc h 7 (.sl b 0 xs.length t.n lim) = some (.ro (rows t.cs xs) xs.length) := t.roc (by omega) hb
end Go.Proofs.YtiejaibmcmicoaaGreatDoor.Am
