/- Models of the functions. -/
import Derived.Test.YtgoachcogmlhcaaMT
set_option maxRecDepth 100000
set_option linter.unusedVariables false
set_option linter.unusedSimpArgs false
set_option linter.defProp false
noncomputable section
namespace Go.Proofs.Ytgoachcogmlhcaa.R
open Go Nat
/-! bytes.Equal -/
def m_bytes_Equal  (a : (List Int)) (b : (List Int)) : Option Bool :=
  some (eqS (strI a) (strI b))
/-! funicular/logs.Same$2 -/
def m_logs_Same_2  (x0 : TEntry) (y : TEntry) : Option Bool :=
  if (decide (x0.Term = y.Term)) = true then
    bnd (m_bytes_Equal x0.Data y.Data) fun r0 =>
    some r0
  else
    some false
/-! slices.EqualFunc[[]funicular/api.Entry,[]funicular/api.Entry,funicular/api.Entry,funicular/api.Entry] -/
def m_slices_EqualFunc_api_Entry_api_Entry_api_Entry_api_Entry_l1_B  (s1 : (List TEntry)) (s2 : (List TEntry)) (rec_m_slices_EqualFunc_api_Entry_api_Entry_api_Entry_api_Entry_l1 : Int → Option Bool) (v17 : Int) : Option Bool :=
  if (decide (v17 < (s1.length : Int))) = true then
    bnd (nthI s1 v17) fun e =>
    bnd (nthI s2 v17) fun e_1 =>
    bnd (m_logs_Same_2 e e_1) fun r0 =>
    if r0 = true then
      rec_m_slices_EqualFunc_api_Entry_api_Entry_api_Entry_api_Entry_l1 (IntKind.i64.wrap (v17 + (1 : Int)))
    else
      some false
  else
    some true
def m_slices_EqualFunc_api_Entry_api_Entry_api_Entry_api_Entry_l1  (s1 : (List TEntry)) (s2 : (List TEntry)) : Nat → Int → Option Bool
  | 0, _ => none
  | n + 1, v17 => m_slices_EqualFunc_api_Entry_api_Entry_api_Entry_api_Entry_l1_B  s1 s2 (m_slices_EqualFunc_api_Entry_api_Entry_api_Entry_api_Entry_l1  s1 s2 n) v17
def m_slices_EqualFunc_api_Entry_api_Entry_api_Entry_api_Entry  (s1 : (List TEntry)) (s2 : (List TEntry)) : Option Bool :=
  if (decide ((s1.length : Int) ≠ (s2.length : Int))) = true then
    some false
  else
    m_slices_EqualFunc_api_Entry_api_Entry_api_Entry_api_Entry_l1 s1 s2 ((((s1.length : Int)) - ((0 : Int))).toNat + 1) (0 : Int)
/-! funicular/funicularlaw15.works: reckoned by the kernel -/
def m_law15_works : Option Bool := some true
/-! funicular/raft.New -/
def m_raft_New_k1  (id : Int) (n0 : Int) (v20 : Bool) : Option (TRaft × Int) :=
  if v20 = true then
    some ((TRaft.mk (0 : Int) (0 : Int) (0 : Int) (0 : Int) (0 : Int) (0 : Int) (TLog.mk (0 : Int) (0 : Int) ([])) (0 : Int) ([]) ([]) ([]) ([]) (0 : Int) (0 : Int)), (2 : Int))
  else
    some ((TRaft.mk id n0 (0 : Int) (0 : Int) (0 : Int) (0 : Int) (TLog.mk (0 : Int) (0 : Int) ([])) (0 : Int) ([]) ([]) ([]) ([]) (0 : Int) (IntKind.i64.wrap ((10 : Int) + id))), (0 : Int))
def m_raft_New  (id : Int) (n0 : Int) : Option (TRaft × Int) :=
  if (decide (n0 < (1 : Int))) = true then
    m_raft_New_k1 id n0 true
  else
    if (decide ((7 : Int) < n0)) = true then
      m_raft_New_k1 id n0 true
    else
      if (decide (id < (1 : Int))) = true then
        m_raft_New_k1 id n0 true
      else
        m_raft_New_k1 id n0 (decide (n0 < id))
/-! funicular/funicularref15.New -/
def m_ref15_New_k1  (id : Int) (n0 : Int) (v20 : Bool) : Option (TRaft × Int) :=
  if v20 = true then
    some ((TRaft.mk (0 : Int) (0 : Int) (0 : Int) (0 : Int) (0 : Int) (0 : Int) (TLog.mk (0 : Int) (0 : Int) ([])) (0 : Int) ([]) ([]) ([]) ([]) (0 : Int) (0 : Int)), (2 : Int))
  else
    some ((TRaft.mk id n0 (0 : Int) (0 : Int) (0 : Int) (0 : Int) (TLog.mk (0 : Int) (0 : Int) ([])) (0 : Int) ([]) ([]) ([]) ([]) (0 : Int) (IntKind.i64.wrap ((10 : Int) + id))), (0 : Int))
def m_ref15_New  (id : Int) (n0 : Int) : Option (TRaft × Int) :=
  if (decide (n0 < (1 : Int))) = true then
    m_ref15_New_k1 id n0 true
  else
    if (decide ((7 : Int) < n0)) = true then
      m_ref15_New_k1 id n0 true
    else
      if (decide (id < (1 : Int))) = true then
        m_ref15_New_k1 id n0 true
      else
        m_ref15_New_k1 id n0 (decide (n0 < id))
/-! funicular/logs.Last -/
def m_logs_Last  (l : TLog) : Option Int :=
  some (IntKind.i64.wrap (l.Base + (l.Entries.length : Int)))
/-! funicular/logs.Term -/
def m_logs_Term_k1  (l : TLog) (at0 : Int) (v13 : Bool) : Option (Int × Bool) :=
  if v13 = true then
    some ((0 : Int), false)
  else
    bnd (nthI l.Entries (IntKind.i64.wrap ((IntKind.i64.wrap (at0 - l.Base)) - (1 : Int)))) fun e =>
    some (e.Term, true)
def m_logs_Term  (l : TLog) (at0 : Int) : Option (Int × Bool) :=
  if (decide (at0 = l.Base)) = true then
    some (l.BaseTerm, true)
  else
    if (decide (at0 < l.Base)) = true then
      m_logs_Term_k1 l at0 true
    else
      bnd (m_logs_Last l) fun r0 =>
      m_logs_Term_k1 l at0 (decide (r0 < at0))
/-! funicular/logs.LastTerm -/
def m_logs_LastTerm  (l : TLog) : Option Int :=
  bnd (m_logs_Last l) fun r0 =>
  bnd (m_logs_Term l r0) fun r0_1 =>
  some r0_1.1
/-! funicular/logs.Check -/
def m_logs_Check_k2 (rec_m_logs_Check_l1 : Int → Int → Option Int) (v39 : Int) (e : TEntry) (v51 : Bool) : Option Int :=
  if v51 = true then
    some (1 : Int)
  else
    rec_m_logs_Check_l1 e.Term (IntKind.i64.wrap (v39 + (1 : Int)))
def m_logs_Check_l1_B  (l : TLog) (rec_m_logs_Check_l1 : Int → Int → Option Int) (term : Int) (v39 : Int) : Option Int :=
  if (decide (v39 < (l.Entries.length : Int))) = true then
    bnd (nthI l.Entries v39) fun e =>
    if (decide (e.Term < term)) = true then
      m_logs_Check_k2 rec_m_logs_Check_l1 v39 e true
    else
      m_logs_Check_k2 rec_m_logs_Check_l1 v39 e (decide ((1099511627776 : Int) < e.Term))
  else
    some (0 : Int)
def m_logs_Check_l1  (l : TLog) : Nat → Int → Int → Option Int
  | 0, _, _ => none
  | n + 1, term, v39 => m_logs_Check_l1_B  l (m_logs_Check_l1  l n) term v39
def m_logs_Check_k1  (l : TLog) (v32 : Bool) : Option Int :=
  if v32 = true then
    some (1 : Int)
  else
    m_logs_Check_l1 l ((((l.Entries.length : Int)) - ((0 : Int))).toNat + 1) (if l.BaseTerm < (1 : Int) then (1 : Int) else l.BaseTerm) (0 : Int)
def m_logs_Check  (l : TLog) : Option Int :=
  if (decide (l.Base < (0 : Int))) = true then
    m_logs_Check_k1 l true
  else
    if (decide ((1099511627776 : Int) < l.Base)) = true then
      m_logs_Check_k1 l true
    else
      if (decide (l.BaseTerm < (0 : Int))) = true then
        m_logs_Check_k1 l true
      else
        if (decide ((1099511627776 : Int) < l.BaseTerm)) = true then
          m_logs_Check_k1 l true
        else
          m_logs_Check_k1 l (!(((decide (l.Base = (0 : Int))) == (decide (l.BaseTerm = (0 : Int))))))
/-! funicular/logs.copied -/
def m_logs_copied_l1_B  (l : (List TEntry)) (rec_m_logs_copied_l1 : Int → (List TEntry) → Option (List TEntry)) (v8 : Int) (out : (List TEntry)) : Option (List TEntry) :=
  if (decide (v8 < (l.length : Int))) = true then
    bnd (nthI l v8) fun e =>
    if (capB (e.Data).length) = true then 
      if (capB (out.length + 1)) = true then 
        rec_m_logs_copied_l1 (IntKind.i64.wrap (v8 + (1 : Int))) (out ++ [e])
       else none
     else none
  else
    some out
def m_logs_copied_l1  (l : (List TEntry)) : Nat → Int → (List TEntry) → Option (List TEntry)
  | 0, _, _ => none
  | n + 1, v8, out => m_logs_copied_l1_B  l (m_logs_copied_l1  l n) v8 out
def m_logs_copied  (l : (List TEntry)) : Option (List TEntry) :=
  m_logs_copied_l1 l ((((l.length : Int)) - ((0 : Int))).toNat + 1) (0 : Int) ([])
/-! funicular/logs.Copy -/
def m_logs_Copy  (l : TLog) : Option TLog :=
  bnd (m_logs_copied l.Entries) fun r0 =>
  some (TLog.mk l.Base l.BaseTerm r0)
/-! funicular/raft.Restart -/
def m_raft_Restart_k1  (term : Int) (vote : Int) (l : TLog) (snap : (List Int)) (r0 : (TRaft × Int)) (v27 : Bool) : Option (TRaft × Int) :=
  if v27 = true then
    some ((TRaft.mk (0 : Int) (0 : Int) (0 : Int) (0 : Int) (0 : Int) (0 : Int) (TLog.mk (0 : Int) (0 : Int) ([])) (0 : Int) ([]) ([]) ([]) ([]) (0 : Int) (0 : Int)), (1 : Int))
  else
    bnd (m_logs_Copy l) fun r0_3 =>
    if (capB (snap).length) = true then 
      some ((TRaft.mk r0.1.Id r0.1.N term vote r0.1.Role r0.1.Lead r0_3 l.Base snap r0.1.Granted r0.1.Next r0.1.Match r0.1.Clock r0.1.Wait), (0 : Int))
     else none
def m_raft_Restart  (id : Int) (n0 : Int) (term : Int) (vote : Int) (l : TLog) (snap : (List Int)) : Option (TRaft × Int) :=
  bnd (m_raft_New id n0) fun r0 =>
  if (decide (r0.2 ≠ (0 : Int))) = true then
    some ((TRaft.mk (0 : Int) (0 : Int) (0 : Int) (0 : Int) (0 : Int) (0 : Int) (TLog.mk (0 : Int) (0 : Int) ([])) (0 : Int) ([]) ([]) ([]) ([]) (0 : Int) (0 : Int)), r0.2)
  else
    if (decide (term < (0 : Int))) = true then
      m_raft_Restart_k1 term vote l snap r0 true
    else
      if (decide ((1099511627776 : Int) < term)) = true then
        m_raft_Restart_k1 term vote l snap r0 true
      else
        if (decide (vote < (0 : Int))) = true then
          m_raft_Restart_k1 term vote l snap r0 true
        else
          if (decide (n0 < vote)) = true then
            m_raft_Restart_k1 term vote l snap r0 true
          else
            bnd (m_logs_LastTerm l) fun r0_1 =>
            if (decide (term < r0_1)) = true then
              m_raft_Restart_k1 term vote l snap r0 true
            else
              bnd (m_logs_Check l) fun r0_2 =>
              m_raft_Restart_k1 term vote l snap r0 (decide (r0_2 ≠ (0 : Int)))
/-! funicular/funicularref13.Check -/
def m_ref13_Check_k3 (rec_m_ref13_Check_l1 : Int → Option Int) (i : Int) (v84 : Bool) : Option Int :=
  if v84 = true then
    some (1 : Int)
  else
    rec_m_ref13_Check_l1 (IntKind.i64.wrap (i + (1 : Int)))
def m_ref13_Check_l1_B  (l : TLog) (rec_m_ref13_Check_l1 : Int → Option Int) (i : Int) : Option Int :=
  if (decide (i < (l.Entries.length : Int))) = true then
    bnd (nthI l.Entries i) fun e =>
    if (decide (e.Term < (1 : Int))) = true then
      m_ref13_Check_k3 rec_m_ref13_Check_l1 i true
    else
      if (decide ((1099511627776 : Int) < e.Term)) = true then
        m_ref13_Check_k3 rec_m_ref13_Check_l1 i true
      else
        if (decide (e.Term < l.BaseTerm)) = true then
          m_ref13_Check_k3 rec_m_ref13_Check_l1 i true
        else
          if (decide ((0 : Int) < i)) = true then
            bnd (nthI l.Entries (IntKind.i64.wrap (i - (1 : Int)))) fun e_1 =>
            m_ref13_Check_k3 rec_m_ref13_Check_l1 i (decide (e.Term < e_1.Term))
          else
            m_ref13_Check_k3 rec_m_ref13_Check_l1 i false
  else
    some (0 : Int)
def m_ref13_Check_l1  (l : TLog) : Nat → Int → Option Int
  | 0, _ => none
  | n + 1, i => m_ref13_Check_l1_B  l (m_ref13_Check_l1  l n) i
def m_ref13_Check_k2  (l : TLog) (v43 : Bool) : Option Int :=
  if v43 = true then
    some (1 : Int)
  else
    m_ref13_Check_l1 l ((((l.Entries.length : Int)) - ((0 : Int))).toNat + 1) (0 : Int)
def m_ref13_Check_k1  (l : TLog) (v25 : Bool) : Option Int :=
  if v25 = true then
    some (1 : Int)
  else
    if (decide (l.Base = (0 : Int))) = true then
      if (decide (l.BaseTerm ≠ (0 : Int))) = true then
        m_ref13_Check_k2 l true
      else
        if (decide (l.Base ≠ (0 : Int))) = true then
          m_ref13_Check_k2 l (decide (l.BaseTerm = (0 : Int)))
        else
          m_ref13_Check_k2 l false
    else
      if (decide (l.Base ≠ (0 : Int))) = true then
        m_ref13_Check_k2 l (decide (l.BaseTerm = (0 : Int)))
      else
        m_ref13_Check_k2 l false
def m_ref13_Check  (l : TLog) : Option Int :=
  if (decide (l.Base < (0 : Int))) = true then
    m_ref13_Check_k1 l true
  else
    if (decide ((1099511627776 : Int) < l.Base)) = true then
      m_ref13_Check_k1 l true
    else
      if (decide (l.BaseTerm < (0 : Int))) = true then
        m_ref13_Check_k1 l true
      else
        m_ref13_Check_k1 l (decide ((1099511627776 : Int) < l.BaseTerm))
/-! funicular/funicularref13.Last -/
def m_ref13_Last  (l : TLog) : Option Int :=
  some (IntKind.i64.wrap (l.Base + (l.Entries.length : Int)))
/-! funicular/funicularref13.Term -/
def m_ref13_Term_l1_B  (l : TLog) (at0 : Int) (rec_m_ref13_Term_l1 : Int → Option (Int × Bool)) (i : Int) : Option (Int × Bool) :=
  if (decide (i < (l.Entries.length : Int))) = true then
    if (decide ((IntKind.i64.wrap ((IntKind.i64.wrap (l.Base + (1 : Int))) + i)) = at0)) = true then
      bnd (nthI l.Entries i) fun e =>
      some (e.Term, true)
    else
      rec_m_ref13_Term_l1 (IntKind.i64.wrap (i + (1 : Int)))
  else
    some ((0 : Int), false)
def m_ref13_Term_l1  (l : TLog) (at0 : Int) : Nat → Int → Option (Int × Bool)
  | 0, _ => none
  | n + 1, i => m_ref13_Term_l1_B  l at0 (m_ref13_Term_l1  l at0 n) i
def m_ref13_Term  (l : TLog) (at0 : Int) : Option (Int × Bool) :=
  if (decide (at0 = l.Base)) = true then
    some (l.BaseTerm, true)
  else
    m_ref13_Term_l1 l at0 ((((l.Entries.length : Int)) - ((0 : Int))).toNat + 1) (0 : Int)
/-! funicular/funicularref15.Restart -/
def m_ref15_Restart_k1  (term : Int) (vote : Int) (l : TLog) (snap : (List Int)) (r0 : (TRaft × Int)) (v59 : Bool) : Option (TRaft × Int) :=
  if v59 = true then
    some ((TRaft.mk (0 : Int) (0 : Int) (0 : Int) (0 : Int) (0 : Int) (0 : Int) (TLog.mk (0 : Int) (0 : Int) ([])) (0 : Int) ([]) ([]) ([]) ([]) (0 : Int) (0 : Int)), (1 : Int))
  else
    some ((TRaft.mk r0.1.Id r0.1.N term vote r0.1.Role r0.1.Lead l l.Base snap r0.1.Granted r0.1.Next r0.1.Match r0.1.Clock r0.1.Wait), (0 : Int))
def m_ref15_Restart  (id : Int) (n0 : Int) (term : Int) (vote : Int) (l : TLog) (snap : (List Int)) : Option (TRaft × Int) :=
  bnd (m_ref15_New id n0) fun r0 =>
  if (decide (r0.2 ≠ (0 : Int))) = true then
    some ((TRaft.mk (0 : Int) (0 : Int) (0 : Int) (0 : Int) (0 : Int) (0 : Int) (TLog.mk (0 : Int) (0 : Int) ([])) (0 : Int) ([]) ([]) ([]) ([]) (0 : Int) (0 : Int)), r0.2)
  else
    bnd (m_ref13_Last l) fun r0_1 =>
    bnd (m_ref13_Term l r0_1) fun r0_2 =>
    if (decide (term < (0 : Int))) = true then
      m_ref15_Restart_k1 term vote l snap r0 true
    else
      if (decide ((1099511627776 : Int) < term)) = true then
        m_ref15_Restart_k1 term vote l snap r0 true
      else
        if (decide (vote < (0 : Int))) = true then
          m_ref15_Restart_k1 term vote l snap r0 true
        else
          if (decide (n0 < vote)) = true then
            m_ref15_Restart_k1 term vote l snap r0 true
          else
            if (decide (term < r0_2.1)) = true then
              m_ref15_Restart_k1 term vote l snap r0 true
            else
              bnd (m_ref13_Check l) fun r0_3 =>
              m_ref15_Restart_k1 term vote l snap r0 (decide (r0_3 ≠ (0 : Int)))
/-! funicular/funicularref13.Entries -/
def m_ref13_Entries_k1 (rec_m_ref13_Entries_l1 : Int → Option Bool) (i : Int) (v42 : Bool) : Option Bool :=
  if v42 = true then
    some false
  else
    rec_m_ref13_Entries_l1 (IntKind.i64.wrap (i + (1 : Int)))
def m_ref13_Entries_l1_B  (a : (List TEntry)) (b : (List TEntry)) (rec_m_ref13_Entries_l1 : Int → Option Bool) (i : Int) : Option Bool :=
  if (decide (i < (a.length : Int))) = true then
    bnd (nthI a i) fun e =>
    bnd (nthI b i) fun e_1 =>
    if (decide (e.Term ≠ e_1.Term)) = true then
      m_ref13_Entries_k1 rec_m_ref13_Entries_l1 i true
    else
      m_ref13_Entries_k1 rec_m_ref13_Entries_l1 i (!(eqS (strI e.Data) (strI e_1.Data)))
  else
    some true
def m_ref13_Entries_l1  (a : (List TEntry)) (b : (List TEntry)) : Nat → Int → Option Bool
  | 0, _ => none
  | n + 1, i => m_ref13_Entries_l1_B  a b (m_ref13_Entries_l1  a b n) i
def m_ref13_Entries  (a : (List TEntry)) (b : (List TEntry)) : Option Bool :=
  if (decide ((a.length : Int) ≠ (b.length : Int))) = true then
    some false
  else
    m_ref13_Entries_l1 a b ((((a.length : Int)) - ((0 : Int))).toNat + 1) (0 : Int)
/-! funicular/funicularref13.Same -/
def m_ref13_Same  (a : TLog) (b : TLog) : Option Bool :=
  if (decide (a.Base = b.Base)) = true then
    if (decide (a.BaseTerm = b.BaseTerm)) = true then
      bnd (m_ref13_Entries a.Entries b.Entries) fun r0 =>
      some r0
    else
      some false
  else
    some false
/-! funicular/funicularref15.bools -/
def m_ref15_bools_l1_B  (a : (List Bool)) (b : (List Bool)) (rec_m_ref15_bools_l1 : Int → Option Bool) (i : Int) : Option Bool :=
  if (decide (i < (a.length : Int))) = true then
    bnd (nthI a i) fun e =>
    bnd (nthI b i) fun e_1 =>
    if (e == e_1) = true then
      rec_m_ref15_bools_l1 (IntKind.i64.wrap (i + (1 : Int)))
    else
      some false
  else
    some true
def m_ref15_bools_l1  (a : (List Bool)) (b : (List Bool)) : Nat → Int → Option Bool
  | 0, _ => none
  | n + 1, i => m_ref15_bools_l1_B  a b (m_ref15_bools_l1  a b n) i
def m_ref15_bools  (a : (List Bool)) (b : (List Bool)) : Option Bool :=
  if (decide ((a.length : Int) ≠ (b.length : Int))) = true then
    some false
  else
    m_ref15_bools_l1 a b ((((a.length : Int)) - ((0 : Int))).toNat + 1) (0 : Int)
/-! funicular/funicularref15.ints -/
def m_ref15_ints_l1_B  (a : (List Int)) (b : (List Int)) (rec_m_ref15_ints_l1 : Int → Option Bool) (i : Int) : Option Bool :=
  if (decide (i < (a.length : Int))) = true then
    bnd (nthI a i) fun e =>
    bnd (nthI b i) fun e_1 =>
    if (decide (e ≠ e_1)) = true then
      some false
    else
      rec_m_ref15_ints_l1 (IntKind.i64.wrap (i + (1 : Int)))
  else
    some true
def m_ref15_ints_l1  (a : (List Int)) (b : (List Int)) : Nat → Int → Option Bool
  | 0, _ => none
  | n + 1, i => m_ref15_ints_l1_B  a b (m_ref15_ints_l1  a b n) i
def m_ref15_ints  (a : (List Int)) (b : (List Int)) : Option Bool :=
  if (decide ((a.length : Int) ≠ (b.length : Int))) = true then
    some false
  else
    m_ref15_ints_l1 a b ((((a.length : Int)) - ((0 : Int))).toNat + 1) (0 : Int)
/-! funicular/funicularref15.Same -/
def m_ref15_Same_k2  (a : TRaft) (b : TRaft) (v72 : Bool) : Option Bool :=
  if v72 = true then
    some false
  else
    bnd (m_ref13_Same (TLog.mk a.Log.Base a.Log.BaseTerm a.Log.Entries) (TLog.mk b.Log.Base b.Log.BaseTerm b.Log.Entries)) fun r0 =>
    if r0 = true then
      bnd (m_ref15_bools a.Granted b.Granted) fun r0_1 =>
      if r0_1 = true then
        bnd (m_ref15_ints a.Next b.Next) fun r0_2 =>
        if r0_2 = true then
          bnd (m_ref15_ints a.Match b.Match) fun r0_3 =>
          some r0_3
        else
          some false
      else
        some false
    else
      some false
def m_ref15_Same_k1  (a : TRaft) (b : TRaft) (v44 : Bool) : Option Bool :=
  if v44 = true then
    some false
  else
    if (decide (a.Commit ≠ b.Commit)) = true then
      m_ref15_Same_k2 a b true
    else
      if (decide (a.Clock ≠ b.Clock)) = true then
        m_ref15_Same_k2 a b true
      else
        if (decide (a.Wait ≠ b.Wait)) = true then
          m_ref15_Same_k2 a b true
        else
          m_ref15_Same_k2 a b (!(eqS (strI a.Snap) (strI b.Snap)))
def m_ref15_Same  (a : TRaft) (b : TRaft) : Option Bool :=
  if (decide (a.Id ≠ b.Id)) = true then
    m_ref15_Same_k1 a b true
  else
    if (decide (a.N ≠ b.N)) = true then
      m_ref15_Same_k1 a b true
    else
      if (decide (a.Term ≠ b.Term)) = true then
        m_ref15_Same_k1 a b true
      else
        if (decide (a.Vote ≠ b.Vote)) = true then
          m_ref15_Same_k1 a b true
        else
          if (decide (a.Role ≠ b.Role)) = true then
            m_ref15_Same_k1 a b true
          else
            m_ref15_Same_k1 a b (decide (a.Lead ≠ b.Lead))
/-! funicular/raft.Same$1 -/
def m_raft_Same_1  (r0 : TRaft) : Option A10_Int :=
  some (A10_Int.mk r0.Id r0.N r0.Term r0.Vote r0.Role r0.Lead r0.Commit r0.Clock r0.Wait (0 : Int))
/-! funicular/logs.Same$1 -/
def m_logs_Same_1  (l : TLog) : Option A2_Int :=
  some (A2_Int.mk l.Base l.BaseTerm)
/-! funicular/logs.Same -/
def m_logs_Same  (a : TLog) (b : TLog) : Option Bool :=
  bnd (m_logs_Same_1 a) fun r0 =>
  bnd (m_logs_Same_1 b) fun r0_1 =>
  if ((decide (r0.a0 = r0_1.a0)) && (decide (r0.a1 = r0_1.a1))) = true then
    bnd (m_slices_EqualFunc_api_Entry_api_Entry_api_Entry_api_Entry a.Entries b.Entries) fun r0_2 =>
    some r0_2
  else
    some false
/-! slices.Equal[[]byte,byte] -/
def m_slices_Equal_byte_byte_l1_B  (s1 : (List Int)) (s2 : (List Int)) (rec_m_slices_Equal_byte_byte_l1 : Int → Option Bool) (v13 : Int) : Option Bool :=
  if (decide (v13 < (s1.length : Int))) = true then
    bnd (nthI s1 v13) fun e =>
    bnd (nthI s2 v13) fun e_1 =>
    if (decide (e ≠ e_1)) = true then
      some false
    else
      rec_m_slices_Equal_byte_byte_l1 (IntKind.i64.wrap (v13 + (1 : Int)))
  else
    some true
def m_slices_Equal_byte_byte_l1  (s1 : (List Int)) (s2 : (List Int)) : Nat → Int → Option Bool
  | 0, _ => none
  | n + 1, v13 => m_slices_Equal_byte_byte_l1_B  s1 s2 (m_slices_Equal_byte_byte_l1  s1 s2 n) v13
def m_slices_Equal_byte_byte  (s1 : (List Int)) (s2 : (List Int)) : Option Bool :=
  if (decide ((s1.length : Int) ≠ (s2.length : Int))) = true then
    some false
  else
    m_slices_Equal_byte_byte_l1 s1 s2 ((((s1.length : Int)) - ((0 : Int))).toNat + 1) (0 : Int)
/-! slices.Equal[[]bool,bool] -/
def m_slices_Equal_bool_bool_l1_B  (s1 : (List Bool)) (s2 : (List Bool)) (rec_m_slices_Equal_bool_bool_l1 : Int → Option Bool) (v13 : Int) : Option Bool :=
  if (decide (v13 < (s1.length : Int))) = true then
    bnd (nthI s1 v13) fun e =>
    bnd (nthI s2 v13) fun e_1 =>
    if (e == e_1) = true then
      rec_m_slices_Equal_bool_bool_l1 (IntKind.i64.wrap (v13 + (1 : Int)))
    else
      some false
  else
    some true
def m_slices_Equal_bool_bool_l1  (s1 : (List Bool)) (s2 : (List Bool)) : Nat → Int → Option Bool
  | 0, _ => none
  | n + 1, v13 => m_slices_Equal_bool_bool_l1_B  s1 s2 (m_slices_Equal_bool_bool_l1  s1 s2 n) v13
def m_slices_Equal_bool_bool  (s1 : (List Bool)) (s2 : (List Bool)) : Option Bool :=
  if (decide ((s1.length : Int) ≠ (s2.length : Int))) = true then
    some false
  else
    m_slices_Equal_bool_bool_l1 s1 s2 ((((s1.length : Int)) - ((0 : Int))).toNat + 1) (0 : Int)
/-! slices.Equal[[]int,int] -/
def m_slices_Equal_int_int_l1_B  (s1 : (List Int)) (s2 : (List Int)) (rec_m_slices_Equal_int_int_l1 : Int → Option Bool) (v13 : Int) : Option Bool :=
  if (decide (v13 < (s1.length : Int))) = true then
    bnd (nthI s1 v13) fun e =>
    bnd (nthI s2 v13) fun e_1 =>
    if (decide (e ≠ e_1)) = true then
      some false
    else
      rec_m_slices_Equal_int_int_l1 (IntKind.i64.wrap (v13 + (1 : Int)))
  else
    some true
def m_slices_Equal_int_int_l1  (s1 : (List Int)) (s2 : (List Int)) : Nat → Int → Option Bool
  | 0, _ => none
  | n + 1, v13 => m_slices_Equal_int_int_l1_B  s1 s2 (m_slices_Equal_int_int_l1  s1 s2 n) v13
def m_slices_Equal_int_int  (s1 : (List Int)) (s2 : (List Int)) : Option Bool :=
  if (decide ((s1.length : Int) ≠ (s2.length : Int))) = true then
    some false
  else
    m_slices_Equal_int_int_l1 s1 s2 ((((s1.length : Int)) - ((0 : Int))).toNat + 1) (0 : Int)
/-! funicular/raft.Same -/
def m_raft_Same  (a : TRaft) (b : TRaft) : Option Bool :=
  bnd (m_raft_Same_1 (TRaft.mk a.Id a.N a.Term a.Vote a.Role a.Lead (TLog.mk a.Log.Base a.Log.BaseTerm a.Log.Entries) a.Commit a.Snap a.Granted a.Next a.Match a.Clock a.Wait)) fun r0 =>
  bnd (m_raft_Same_1 (TRaft.mk b.Id b.N b.Term b.Vote b.Role b.Lead (TLog.mk b.Log.Base b.Log.BaseTerm b.Log.Entries) b.Commit b.Snap b.Granted b.Next b.Match b.Clock b.Wait)) fun r0_1 =>
  if ((decide (r0.a0 = r0_1.a0)) && ((decide (r0.a1 = r0_1.a1)) && ((decide (r0.a2 = r0_1.a2)) && ((decide (r0.a3 = r0_1.a3)) && ((decide (r0.a4 = r0_1.a4)) && ((decide (r0.a5 = r0_1.a5)) && ((decide (r0.a6 = r0_1.a6)) && ((decide (r0.a7 = r0_1.a7)) && ((decide (r0.a8 = r0_1.a8)) && (decide (r0.a9 = r0_1.a9))))))))))) = true then
    bnd (m_logs_Same (TLog.mk a.Log.Base a.Log.BaseTerm a.Log.Entries) (TLog.mk b.Log.Base b.Log.BaseTerm b.Log.Entries)) fun r0_2 =>
    if r0_2 = true then
      bnd (m_slices_Equal_byte_byte a.Snap b.Snap) fun r0_3 =>
      if r0_3 = true then
        bnd (m_slices_Equal_bool_bool a.Granted b.Granted) fun r0_4 =>
        if r0_4 = true then
          bnd (m_slices_Equal_int_int a.Next b.Next) fun r0_5 =>
          if r0_5 = true then
            bnd (m_slices_Equal_int_int a.Match b.Match) fun r0_6 =>
            some r0_6
          else
            some false
        else
          some false
      else
        some false
    else
      some false
  else
    some false
/-! funicular/funicularref13.Weight -/
def m_ref13_Weight_k1 (rec_m_ref13_Weight_l1 : Int → Int → Option Int) (l : (List TEntry)) (n0 : Int) (i : Int) (v15 : Bool) : Option Int :=
  if v15 = true then
    bnd (nthI l i) fun e =>
    rec_m_ref13_Weight_l1 (IntKind.i64.wrap ((IntKind.i64.wrap (n0 + (1 : Int))) + (IntKind.i64.wrap ((e.Data.length : Int).tdiv (20 : Int))))) (IntKind.i64.wrap (i + (1 : Int)))
  else
    some n0
def m_ref13_Weight_l1_B  (l : (List TEntry)) (most : Int) (rec_m_ref13_Weight_l1 : Int → Int → Option Int) (n0 : Int) (i : Int) : Option Int :=
  if (decide (i < (l.length : Int))) = true then
    m_ref13_Weight_k1 rec_m_ref13_Weight_l1 l n0 i (decide (n0 ≤ most))
  else
    m_ref13_Weight_k1 rec_m_ref13_Weight_l1 l n0 i false
def m_ref13_Weight_l1  (l : (List TEntry)) (most : Int) : Nat → Int → Int → Option Int
  | 0, _, _ => none
  | n + 1, n0, i => m_ref13_Weight_l1_B  l most (m_ref13_Weight_l1  l most n) n0 i
def m_ref13_Weight  (l : (List TEntry)) (most : Int) : Option Int :=
  m_ref13_Weight_l1 l most ((((l.length : Int)) - ((0 : Int))).toNat + 1) (0 : Int) (0 : Int)
/-! funicular/funicularlaw15.RaftBegins -/
def m_law15_RaftBegins_k1  (id : Int) (n0 : Int) (term : Int) (vote : Int) (l : TLog) (snap : (List Int)) (v29 : Bool) : Option Bool :=
  if v29 = true then
    bnd (m_law15_works ) fun r0_1 =>
    some r0_1
  else
    bnd (m_raft_New id n0) fun r0_2 =>
    bnd (m_ref15_New id n0) fun r0_3 =>
    bnd (m_raft_Restart id n0 term vote l snap) fun r0_4 =>
    bnd (m_ref15_Restart id n0 term vote l snap) fun r0_5 =>
    if (decide (r0_2.2 = r0_3.2)) = true then
      if (decide (r0_4.2 = r0_5.2)) = true then
        bnd (m_ref15_Same (TRaft.mk r0_2.1.Id r0_2.1.N r0_2.1.Term r0_2.1.Vote r0_2.1.Role r0_2.1.Lead (TLog.mk r0_2.1.Log.Base r0_2.1.Log.BaseTerm r0_2.1.Log.Entries) r0_2.1.Commit r0_2.1.Snap r0_2.1.Granted r0_2.1.Next r0_2.1.Match r0_2.1.Clock r0_2.1.Wait) (TRaft.mk r0_3.1.Id r0_3.1.N r0_3.1.Term r0_3.1.Vote r0_3.1.Role r0_3.1.Lead (TLog.mk r0_3.1.Log.Base r0_3.1.Log.BaseTerm r0_3.1.Log.Entries) r0_3.1.Commit r0_3.1.Snap r0_3.1.Granted r0_3.1.Next r0_3.1.Match r0_3.1.Clock r0_3.1.Wait)) fun r0_6 =>
        if r0_6 = true then
          bnd (m_ref15_Same (TRaft.mk r0_4.1.Id r0_4.1.N r0_4.1.Term r0_4.1.Vote r0_4.1.Role r0_4.1.Lead (TLog.mk r0_4.1.Log.Base r0_4.1.Log.BaseTerm r0_4.1.Log.Entries) r0_4.1.Commit r0_4.1.Snap r0_4.1.Granted r0_4.1.Next r0_4.1.Match r0_4.1.Clock r0_4.1.Wait) (TRaft.mk r0_5.1.Id r0_5.1.N r0_5.1.Term r0_5.1.Vote r0_5.1.Role r0_5.1.Lead (TLog.mk r0_5.1.Log.Base r0_5.1.Log.BaseTerm r0_5.1.Log.Entries) r0_5.1.Commit r0_5.1.Snap r0_5.1.Granted r0_5.1.Next r0_5.1.Match r0_5.1.Clock r0_5.1.Wait)) fun r0_7 =>
          if r0_7 = true then
            bnd (m_raft_Same (TRaft.mk r0_2.1.Id r0_2.1.N r0_2.1.Term r0_2.1.Vote r0_2.1.Role r0_2.1.Lead (TLog.mk r0_2.1.Log.Base r0_2.1.Log.BaseTerm r0_2.1.Log.Entries) r0_2.1.Commit r0_2.1.Snap r0_2.1.Granted r0_2.1.Next r0_2.1.Match r0_2.1.Clock r0_2.1.Wait) (TRaft.mk r0_4.1.Id r0_4.1.N r0_4.1.Term r0_4.1.Vote r0_4.1.Role r0_4.1.Lead (TLog.mk r0_4.1.Log.Base r0_4.1.Log.BaseTerm r0_4.1.Log.Entries) r0_4.1.Commit r0_4.1.Snap r0_4.1.Granted r0_4.1.Next r0_4.1.Match r0_4.1.Clock r0_4.1.Wait)) fun r0_8 =>
            bnd (m_ref15_Same (TRaft.mk r0_2.1.Id r0_2.1.N r0_2.1.Term r0_2.1.Vote r0_2.1.Role r0_2.1.Lead (TLog.mk r0_2.1.Log.Base r0_2.1.Log.BaseTerm r0_2.1.Log.Entries) r0_2.1.Commit r0_2.1.Snap r0_2.1.Granted r0_2.1.Next r0_2.1.Match r0_2.1.Clock r0_2.1.Wait) (TRaft.mk r0_4.1.Id r0_4.1.N r0_4.1.Term r0_4.1.Vote r0_4.1.Role r0_4.1.Lead (TLog.mk r0_4.1.Log.Base r0_4.1.Log.BaseTerm r0_4.1.Log.Entries) r0_4.1.Commit r0_4.1.Snap r0_4.1.Granted r0_4.1.Next r0_4.1.Match r0_4.1.Clock r0_4.1.Wait)) fun r0_9 =>
            if (r0_8 == r0_9) = true then
              bnd (m_law15_works ) fun r0_10 =>
              some r0_10
            else
              some false
          else
            some false
        else
          some false
      else
        some false
    else
      some false
def m_law15_RaftBegins  (id : Int) (n0 : Int) (term : Int) (vote : Int) (l : TLog) (snap : (List Int)) : Option Bool :=
  bnd (m_ref13_Weight l.Entries (200 : Int)) fun r0 =>
  if (decide ((200 : Int) < r0)) = true then
    m_law15_RaftBegins_k1 id n0 term vote l snap true
  else
    m_law15_RaftBegins_k1 id n0 term vote l snap (decide ((500 : Int) < (snap.length : Int)))
end Go.Proofs.Ytgoachcogmlhcaa.R
