/- What functions do with plain data, each by the form of its code. Printed by program. -/
import Derived.Test.YtdlkgdlefbabcaaCShares0
namespace Go.Proofs.Ytdlkgdlefbabcaa.AL
open Go
set_option linter.unusedVariables false
set_option linter.unusedSimpArgs false
set_option maxRecDepth 4096

theorem c_298 (code : List Int) (hw : code.length ≤ 140737488355328) : CV prg 298 [.sl 1 (code.map uR)] (fun res => res = .w (.bool true)) := by
  refine cv_in g298 ?_
  refine s_keep [0] rfl ?_
  refine S_seq ?_
  refine s_rg ?_
  refine s_op (o_mv rfl) ?_
  refine s_nilO ?_
  refine q_seqN ?_
  refine s_keep [0] rfl ?_
  refine S_seq ?_
  refine S_seq ?_
  refine s_rg ?_
  refine s_op (o_mv rfl) ?_
  refine s_call rfl rfl (c_123 _ (by assumption)) ?_
  refine s_nilO ?_
  refine q_seqN ?_
  refine s_keep [0, 7] rfl ?_
  first | refine s_condD rfl ?_ ?_ | refine s_condN rfl ?_ ?_ | refine s_condNB rfl ?_ ?_ | refine s_condB rfl ?_ ?_
  · intro h1
    try rw [Decidable.not_not] at h1
    try have hc : code.length ≤ 1048576 := by simp at h1; omega
    try have hsf := shareF (c := x) (n := n) (by assumption) (by assumption) (by assumption)
    try have hb0 := bound_no (c := x) (n := n) (.inl (by assumption))
    try have hb0 := bound_no (c := x) (n := n) (.inr (.inl (by assumption)))
    try have hb0 := bound_no (c := x) (n := n) (.inr (.inr (by assumption)))
    refine S_seq ?_
    refine s_rg ?_
    refine s_op (o_mv rfl) ?_
    refine s_nilO ?_
    refine q_seqN ?_
    refine s_keep [2] rfl ?_
    refine s_ret ?_
    refine q_seqR ?_
    refine ret_leaf (.inr rfl) rfl rfl ?_
    refine congrArg (fun b => V.w (.bool b)) ?_
    first | (simp_all; done) | (have k1 := hsf.share; have k2 := hsf.sum; have k3 := hsf.big; have k4 := hsf.grow; have k5 := hsf.slot; simp_all; done) | (have k1 := hsf.share; have k2 := hsf.sum; have k3 := hsf.big; have k4 := hsf.grow; have k5 := hsf.slot; simp_all; omega)
  · intro h1
    try rw [Decidable.not_not] at h1
    try have hc : code.length ≤ 1048576 := by simp at h1; omega
    try have hsf := shareF (c := x) (n := n) (by assumption) (by assumption) (by assumption)
    try have hb0 := bound_no (c := x) (n := n) (.inl (by assumption))
    try have hb0 := bound_no (c := x) (n := n) (.inr (.inl (by assumption)))
    try have hb0 := bound_no (c := x) (n := n) (.inr (.inr (by assumption)))
    refine s_skip ?_
    refine q_seqN ?_
    refine s_keep [0] rfl ?_
    refine S_seq ?_
    refine s_rg ?_
    refine s_op (o_mv rfl) ?_
    refine s_callP rfl rfl (c_313 _ hc) ?_
    rintro u ⟨x, n, rfl, hx, hn0, hn1⟩
    refine s_op (o_mv rfl) ?_
    refine s_op (o_ext rfl rfl) ?_
    refine s_op (o_ext rfl rfl) ?_
    refine s_op (o_new rfl rfl) ?_
    refine s_opN (o_stnC rfl rfl rfl rfl rfl rfl rfl) ?_
    refine s_op (o_mv rfl) ?_
    refine s_nilO ?_
    refine q_seqN ?_
    refine s_keep [3, 4] rfl ?_
    refine S_seq ?_
    refine s_rg ?_
    refine s_op (o_ldnC rfl rfl rfl) ?_
    refine s_op (o_mv rfl) ?_
    first | refine s_call rfl rfl (c_310 x _ (by omega)) ?_ | refine s_callL rfl rfl (by simp) (c_310 x _ (by omega)) rfl ?_
    refine s_op (o_mv rfl) ?_
    refine s_nilO ?_
    refine q_seqN ?_
    refine s_keep [3, 4, 5] rfl ?_
    refine S_seq ?_
    refine S_seq ?_
    refine s_rg ?_
    refine s_op (o_mv rfl) ?_
    refine s_op (o_ldnC rfl rfl rfl) ?_
    refine s_op (o_mv rfl) ?_
    first | refine s_call rfl rfl (c_309 x _ (by omega)) ?_ | refine s_callL rfl rfl (by simp) (c_309 x _ (by omega)) rfl ?_
    first | refine s_op (o_neq rfl rfl) ?_ | refine s_op (o_bin rfl rfl rfl rfl) ?_
    refine s_op (o_mv rfl) ?_
    first | refine s_gDF rfl ?_ ?_ | refine s_gNDF rfl ?_ ?_ | refine s_gNF rfl ?_ ?_ | refine s_gB rfl ?_ ?_
    · intro h2
      try rw [Decidable.not_not] at h2
      try have hc : code.length ≤ 1048576 := by simp at h2; omega
      try have hsf := shareF (c := x) (n := n) (by assumption) (by assumption) (by assumption)
      try have hb0 := bound_no (c := x) (n := n) (.inl (by assumption))
      try have hb0 := bound_no (c := x) (n := n) (.inr (.inl (by assumption)))
      try have hb0 := bound_no (c := x) (n := n) (.inr (.inr (by assumption)))
      refine s_op (o_ldnC rfl rfl rfl) ?_
      refine s_gT rfl ?_
      first | refine s_call rfl rfl (c_307 x (by omega)) ?_ | refine s_callL rfl rfl (by simp) (c_307 x (by omega)) rfl ?_
      refine s_gT rfl ?_
      refine s_op (o_ldnC rfl rfl rfl) ?_
      refine s_gT rfl ?_
      first | refine s_call rfl rfl (c_306 x (by omega)) ?_ | refine s_callL rfl rfl (by simp) (c_306 x (by omega)) rfl ?_
      refine s_gT rfl ?_
      first | refine s_op (o_neq rfl rfl) ?_ | refine s_op (o_bin rfl rfl rfl rfl) ?_
      refine s_op (o_pickF rfl rfl) ?_
      refine s_op (o_mv rfl) ?_
      first | refine s_gDF rfl ?_ ?_ | refine s_gNDF rfl ?_ ?_ | refine s_gNF rfl ?_ ?_ | refine s_gB rfl ?_ ?_
      · intro h3
        try rw [Decidable.not_not] at h3
        try have hc : code.length ≤ 1048576 := by simp at h3; omega
        try have hsf := shareF (c := x) (n := n) (by assumption) (by assumption) (by assumption)
        try have hb0 := bound_no (c := x) (n := n) (.inl (by assumption))
        try have hb0 := bound_no (c := x) (n := n) (.inr (.inl (by assumption)))
        try have hb0 := bound_no (c := x) (n := n) (.inr (.inr (by assumption)))
        refine s_op (o_ldnC rfl rfl rfl) ?_
        refine s_keepO (is := [3, 4, 5, 28, 29]) rfl ?_
        refine s_gT rfl ?_
        first | refine s_call rfl rfl (c_72 x (by omega)) ?_ | refine s_callL rfl rfl (by simp) (c_72 x (by omega)) rfl ?_
        refine s_gT rfl ?_
        refine s_op (o_ldnC rfl rfl rfl) ?_
        refine s_gT rfl ?_
        first | refine s_call rfl rfl (c_213 x (by omega)) ?_ | refine s_callL rfl rfl (by simp) (c_213 x (by omega)) rfl ?_
        refine s_gT rfl ?_
        refine s_op (o_eqb rfl rfl) ?_
        refine s_op (o_pickF rfl rfl) ?_
        refine s_op (o_mv rfl) ?_
        first | refine s_gDF rfl ?_ ?_ | refine s_gNDF rfl ?_ ?_ | refine s_gNF rfl ?_ ?_ | refine s_gB rfl ?_ ?_
        · intro h4
          try rw [Decidable.not_not] at h4
          try have hc : code.length ≤ 1048576 := by simp at h4; omega
          try have hsf := shareF (c := x) (n := n) (by assumption) (by assumption) (by assumption)
          try have hb0 := bound_no (c := x) (n := n) (.inl (by assumption))
          try have hb0 := bound_no (c := x) (n := n) (.inr (.inl (by assumption)))
          try have hb0 := bound_no (c := x) (n := n) (.inr (.inr (by assumption)))
          refine s_op (o_ldnC rfl rfl rfl) ?_
          refine s_gT rfl ?_
          first | refine s_call rfl rfl (c_50 x (by omega)) ?_ | refine s_callL rfl rfl (by simp) (c_50 x (by omega)) rfl ?_
          refine s_gT rfl ?_
          refine s_op (o_ldnC rfl rfl rfl) ?_
          refine s_gT rfl ?_
          first | refine s_call rfl rfl (c_200 x (by omega)) ?_ | refine s_callL rfl rfl (by simp) (c_200 x (by omega)) rfl ?_
          refine s_gT rfl ?_
          first | refine s_op (o_neq rfl rfl) ?_ | refine s_op (o_bin rfl rfl rfl rfl) ?_
          refine s_op (o_pickF rfl rfl) ?_
          refine s_nilO ?_
          refine q_seqN ?_
          refine s_keep [3, 4, 5, 41] rfl ?_
          first | refine s_condD rfl ?_ ?_ | refine s_condN rfl ?_ ?_ | refine s_condNB rfl ?_ ?_ | refine s_condB rfl ?_ ?_
          · intro h5
            try rw [Decidable.not_not] at h5
            try have hc : code.length ≤ 1048576 := by simp at h5; omega
            try have hsf := shareF (c := x) (n := n) (by assumption) (by assumption) (by assumption)
            try have hb0 := bound_no (c := x) (n := n) (.inl (by assumption))
            try have hb0 := bound_no (c := x) (n := n) (.inr (.inl (by assumption)))
            try have hb0 := bound_no (c := x) (n := n) (.inr (.inr (by assumption)))
            refine S_seq ?_
            refine s_rg ?_
            refine s_op (o_mv rfl) ?_
            refine s_nilO ?_
            refine q_seqN ?_
            refine s_keep [2] rfl ?_
            refine s_ret ?_
            refine q_seqR ?_
            refine ret_leaf (.inr rfl) rfl rfl ?_
            refine congrArg (fun b => V.w (.bool b)) ?_
            first | (simp_all; done) | (have k1 := hsf.share; have k2 := hsf.sum; have k3 := hsf.big; have k4 := hsf.grow; have k5 := hsf.slot; simp_all; done) | (have k1 := hsf.share; have k2 := hsf.sum; have k3 := hsf.big; have k4 := hsf.grow; have k5 := hsf.slot; simp_all; omega)
          · intro h5
            try rw [Decidable.not_not] at h5
            try have hc : code.length ≤ 1048576 := by simp at h5; omega
            try have hsf := shareF (c := x) (n := n) (by assumption) (by assumption) (by assumption)
            try have hb0 := bound_no (c := x) (n := n) (.inl (by assumption))
            try have hb0 := bound_no (c := x) (n := n) (.inr (.inl (by assumption)))
            try have hb0 := bound_no (c := x) (n := n) (.inr (.inr (by assumption)))
            refine s_skip ?_
            refine q_seqN ?_
            refine s_keep [3, 4, 5] rfl ?_
            refine S_seq ?_
            refine S_seq ?_
            refine s_rg ?_
            refine s_op (o_ldnC rfl rfl rfl) ?_
            first | refine s_call rfl rfl (c_184 x (by omega)) ?_ | refine s_callL rfl rfl (by simp) (c_184 x (by omega)) rfl ?_
            refine s_op (o_not rfl) ?_
            refine s_op (o_mv rfl) ?_
            first | refine s_gDF rfl ?_ ?_ | refine s_gNDF rfl ?_ ?_ | refine s_gNF rfl ?_ ?_ | refine s_gB rfl ?_ ?_
            · intro h6
              try rw [Decidable.not_not] at h6
              try have hc : code.length ≤ 1048576 := by simp at h6; omega
              try have hsf := shareF (c := x) (n := n) (by assumption) (by assumption) (by assumption)
              try have hb0 := bound_no (c := x) (n := n) (.inl (by assumption))
              try have hb0 := bound_no (c := x) (n := n) (.inr (.inl (by assumption)))
              try have hb0 := bound_no (c := x) (n := n) (.inr (.inr (by assumption)))
              refine s_op (o_mv rfl) ?_
              refine s_gT rfl ?_
              first | refine s_op (o_lss rfl rfl) ?_ | refine s_op (o_bin rfl rfl rfl rfl) ?_
              refine s_op (o_pickF rfl rfl) ?_
              refine s_op (o_mv rfl) ?_
              first | refine s_gDF rfl ?_ ?_ | refine s_gNDF rfl ?_ ?_ | refine s_gNF rfl ?_ ?_ | refine s_gB rfl ?_ ?_
              · intro h7
                try rw [Decidable.not_not] at h7
                try have hc : code.length ≤ 1048576 := by simp at h7; omega
                try have hsf := shareF (c := x) (n := n) (by assumption) (by assumption) (by assumption)
                try have hb0 := bound_no (c := x) (n := n) (.inl (by assumption))
                try have hb0 := bound_no (c := x) (n := n) (.inr (.inl (by assumption)))
                try have hb0 := bound_no (c := x) (n := n) (.inr (.inr (by assumption)))
                refine s_op (o_mv rfl) ?_
                refine s_gT rfl ?_
                first | refine s_op (o_gtr rfl rfl) ?_ | refine s_op (o_bin rfl rfl rfl rfl) ?_
                refine s_op (o_pickF rfl rfl) ?_
                refine s_nilO ?_
                refine q_seqN ?_
                refine s_keep [3, 4, 5, 52] rfl ?_
                first | refine s_condD rfl ?_ ?_ | refine s_condN rfl ?_ ?_ | refine s_condNB rfl ?_ ?_ | refine s_condB rfl ?_ ?_
                · intro h8
                  try rw [Decidable.not_not] at h8
                  try have hc : code.length ≤ 1048576 := by simp at h8; omega
                  try have hsf := shareF (c := x) (n := n) (by assumption) (by assumption) (by assumption)
                  try have hb0 := bound_no (c := x) (n := n) (.inl (by assumption))
                  try have hb0 := bound_no (c := x) (n := n) (.inr (.inl (by assumption)))
                  try have hb0 := bound_no (c := x) (n := n) (.inr (.inr (by assumption)))
                  refine S_seq ?_
                  refine s_rg ?_
                  refine s_op (o_mv rfl) ?_
                  first | refine s_op (o_eql rfl rfl) ?_ | refine s_op (o_bin rfl rfl rfl rfl) ?_
                  refine s_op (o_mv rfl) ?_
                  refine s_nilO ?_
                  refine q_seqN ?_
                  refine s_keep [2] rfl ?_
                  refine s_ret ?_
                  refine q_seqR ?_
                  refine ret_leaf (.inr rfl) rfl rfl ?_
                  refine congrArg (fun b => V.w (.bool b)) ?_
                  first | (simp_all; done) | (have k1 := hsf.share; have k2 := hsf.sum; have k3 := hsf.big; have k4 := hsf.grow; have k5 := hsf.slot; simp_all; done) | (have k1 := hsf.share; have k2 := hsf.sum; have k3 := hsf.big; have k4 := hsf.grow; have k5 := hsf.slot; simp_all; omega)
                · intro h8
                  try rw [Decidable.not_not] at h8
                  try have hc : code.length ≤ 1048576 := by simp at h8; omega
                  try have hsf := shareF (c := x) (n := n) (by assumption) (by assumption) (by assumption)
                  try have hb0 := bound_no (c := x) (n := n) (.inl (by assumption))
                  try have hb0 := bound_no (c := x) (n := n) (.inr (.inl (by assumption)))
                  try have hb0 := bound_no (c := x) (n := n) (.inr (.inr (by assumption)))
                  refine s_skip ?_
                  refine q_seqN ?_
                  refine s_keep [3, 4, 5] rfl ?_
                  refine S_seq ?_
                  refine s_rg ?_
                  refine s_op (o_ldnC rfl rfl rfl) ?_
                  first | refine s_call rfl rfl (c_72 x (by omega)) ?_ | refine s_callL rfl rfl (by simp) (c_72 x (by omega)) rfl ?_
                  refine s_op (o_mv rfl) ?_
                  first | refine s_gDT rfl ?_ ?_ | refine s_gNDT rfl ?_ ?_ | refine s_gNT rfl ?_ ?_ | refine s_gB rfl ?_ ?_
                  · intro h9
                    try rw [Decidable.not_not] at h9
                    try have hc : code.length ≤ 1048576 := by simp at h9; omega
                    try have hsf := shareF (c := x) (n := n) (by assumption) (by assumption) (by assumption)
                    try have hb0 := bound_no (c := x) (n := n) (.inl (by assumption))
                    try have hb0 := bound_no (c := x) (n := n) (.inr (.inl (by assumption)))
                    try have hb0 := bound_no (c := x) (n := n) (.inr (.inr (by assumption)))
                    refine s_op (o_mv rfl) ?_
                    refine s_gT rfl ?_
                    refine s_op (o_ldnC rfl rfl rfl) ?_
                    refine s_gT rfl ?_
                    first | refine s_call rfl rfl (c_307 x (by omega)) ?_ | refine s_callL rfl rfl (by simp) (c_307 x (by omega)) rfl ?_
                    refine s_gT rfl ?_
                    refine s_op (o_ldnC rfl rfl rfl) ?_
                    refine s_gT rfl ?_
                    first | refine s_call rfl rfl (c_74 x) ?_ | refine s_callL rfl rfl (by simp) (c_74 x) rfl ?_
                    refine s_gT rfl ?_
                    first | refine s_op (o_addn rfl rfl (by omega)) ?_ | refine s_op (o_add rfl rfl) ?_
                    refine s_gT rfl ?_
                    first | refine s_op (o_gtr rfl rfl) ?_ | refine s_op (o_bin rfl rfl rfl rfl) ?_
                    refine s_op (o_pickT rfl rfl) ?_
                    refine s_op (o_mv rfl) ?_
                    first | refine s_gDT rfl ?_ ?_ | refine s_gNDT rfl ?_ ?_ | refine s_gNT rfl ?_ ?_ | refine s_gB rfl ?_ ?_
                    · intro h10
                      try rw [Decidable.not_not] at h10
                      try have hc : code.length ≤ 1048576 := by simp at h10; omega
                      try have hsf := shareF (c := x) (n := n) (by assumption) (by assumption) (by assumption)
                      try have hb0 := bound_no (c := x) (n := n) (.inl (by assumption))
                      try have hb0 := bound_no (c := x) (n := n) (.inr (.inl (by assumption)))
                      try have hb0 := bound_no (c := x) (n := n) (.inr (.inr (by assumption)))
                      refine s_op (o_mv rfl) ?_
                      refine s_gT rfl ?_
                      first | refine s_op (o_eql rfl rfl) ?_ | refine s_op (o_bin rfl rfl rfl rfl) ?_
                      refine s_keepO (is := [3, 4, 5, 66, 68]) rfl ?_
                      refine s_gT rfl ?_
                      refine s_op (o_mv rfl) ?_
                      first | refine s_gDF rfl ?_ ?_ | refine s_gNDF rfl ?_ ?_ | refine s_gNF rfl ?_ ?_ | refine s_gB rfl ?_ ?_
                      · intro h11
                        try rw [Decidable.not_not] at h11
                        try have hc : code.length ≤ 1048576 := by simp at h11; omega
                        try have hsf := shareF (c := x) (n := n) (by assumption) (by assumption) (by assumption)
                        try have hb0 := bound_no (c := x) (n := n) (.inl (by assumption))
                        try have hb0 := bound_no (c := x) (n := n) (.inr (.inl (by assumption)))
                        try have hb0 := bound_no (c := x) (n := n) (.inr (.inr (by assumption)))
                        refine s_op (o_ldnC rfl rfl rfl) ?_
                        refine s_gT rfl ?_
                        refine s_op (o_mv rfl) ?_
                        refine s_gT rfl ?_
                        first | refine s_op (o_addn rfl rfl (by omega)) ?_ | refine s_op (o_add rfl rfl) ?_
                        refine s_gT rfl ?_
                        first | refine s_call rfl rfl (c_310 x _ (by omega)) ?_ | refine s_callL rfl rfl (by simp) (c_310 x _ (by omega)) rfl ?_
                        refine s_gT rfl ?_
                        refine s_op (o_mv rfl) ?_
                        refine s_gT rfl ?_
                        first | refine s_op (o_gtr rfl rfl) ?_ | refine s_op (o_bin rfl rfl rfl rfl) ?_
                        refine s_gT rfl ?_
                        refine s_op (o_pickF rfl rfl) ?_
                        refine s_op (o_pickT rfl rfl) ?_
                        refine s_op (o_mv rfl) ?_
                        first | refine s_gDT rfl ?_ ?_ | refine s_gNDT rfl ?_ ?_ | refine s_gNT rfl ?_ ?_ | refine s_gB rfl ?_ ?_
                        · intro h12
                          try rw [Decidable.not_not] at h12
                          try have hc : code.length ≤ 1048576 := by simp at h12; omega
                          try have hsf := shareF (c := x) (n := n) (by assumption) (by assumption) (by assumption)
                          try have hb0 := bound_no (c := x) (n := n) (.inl (by assumption))
                          try have hb0 := bound_no (c := x) (n := n) (.inr (.inl (by assumption)))
                          try have hb0 := bound_no (c := x) (n := n) (.inr (.inr (by assumption)))
                          refine s_op (o_ldnC rfl rfl rfl) ?_
                          refine s_gT rfl ?_
                          first | refine s_call rfl rfl (c_74 x) ?_ | refine s_callL rfl rfl (by simp) (c_74 x) rfl ?_
                          refine s_gT rfl ?_
                          refine s_op (o_ldnC rfl rfl rfl) ?_
                          refine s_gT rfl ?_
                          first | refine s_call rfl rfl (c_37 x) ?_ | refine s_callL rfl rfl (by simp) (c_37 x) rfl ?_
                          refine s_keepO (is := [3, 78, 80, 82]) rfl ?_
                          refine s_gT rfl ?_
                          first | refine s_op (o_gtr rfl rfl) ?_ | refine s_op (o_bin rfl rfl rfl rfl) ?_
                          refine s_op (o_pickT rfl rfl) ?_
                          refine s_op (o_mv rfl) ?_
                          first | refine s_gDT rfl ?_ ?_ | refine s_gNDT rfl ?_ ?_ | refine s_gNT rfl ?_ ?_ | refine s_gB rfl ?_ ?_
                          · intro h13
                            try rw [Decidable.not_not] at h13
                            try have hc : code.length ≤ 1048576 := by simp at h13; omega
                            try have hsf := shareF (c := x) (n := n) (by assumption) (by assumption) (by assumption)
                            try have hb0 := bound_no (c := x) (n := n) (.inl (by assumption))
                            try have hb0 := bound_no (c := x) (n := n) (.inr (.inl (by assumption)))
                            try have hb0 := bound_no (c := x) (n := n) (.inr (.inr (by assumption)))
                            refine s_op (o_ldnC rfl rfl rfl) ?_
                            refine s_gT rfl ?_
                            first | refine s_call rfl rfl (c_44 x (by omega)) ?_ | refine s_callL rfl rfl (by simp) (c_44 x (by omega)) rfl ?_
                            refine s_gT rfl ?_
                            refine s_op (o_ldnC rfl rfl rfl) ?_
                            refine s_gT rfl ?_
                            first | refine s_call rfl rfl (c_197 x (by omega)) ?_ | refine s_callL rfl rfl (by simp) (c_197 x (by omega)) rfl ?_
                            refine s_gT rfl ?_
                            first | refine s_op (o_eql rfl rfl) ?_ | refine s_op (o_bin rfl rfl rfl rfl) ?_
                            refine s_op (o_pickT rfl rfl) ?_
                            refine s_op (o_mv rfl) ?_
                            refine s_nilO ?_
                            refine q_seqN ?_
                            refine s_keep [2] rfl ?_
                            refine s_ret ?_
                            refine ret_leaf (.inr rfl) rfl rfl ?_
                            refine congrArg (fun b => V.w (.bool b)) ?_
                            first | (simp_all; done) | (have k1 := hsf.share; have k2 := hsf.sum; have k3 := hsf.big; have k4 := hsf.grow; have k5 := hsf.slot; simp_all; done) | (have k1 := hsf.share; have k2 := hsf.sum; have k3 := hsf.big; have k4 := hsf.grow; have k5 := hsf.slot; simp_all; omega)
                          · intro h13
                            try rw [Decidable.not_not] at h13
                            try have hc : code.length ≤ 1048576 := by simp at h13; omega
                            try have hsf := shareF (c := x) (n := n) (by assumption) (by assumption) (by assumption)
                            try have hb0 := bound_no (c := x) (n := n) (.inl (by assumption))
                            try have hb0 := bound_no (c := x) (n := n) (.inr (.inl (by assumption)))
                            try have hb0 := bound_no (c := x) (n := n) (.inr (.inr (by assumption)))
                            refine s_gF rfl ?_
                            refine s_gF rfl ?_
                            refine s_gF rfl ?_
                            refine s_gF rfl ?_
                            refine s_gF rfl ?_
                            refine s_op (o_pickF rfl rfl) ?_
                            refine s_op (o_mv rfl) ?_
                            refine s_nilO ?_
                            refine q_seqN ?_
                            refine s_keep [2] rfl ?_
                            refine s_ret ?_
                            refine ret_leaf (.inr rfl) rfl rfl ?_
                            refine congrArg (fun b => V.w (.bool b)) ?_
                            first | (simp_all; done) | (have k1 := hsf.share; have k2 := hsf.sum; have k3 := hsf.big; have k4 := hsf.grow; have k5 := hsf.slot; simp_all; done) | (have k1 := hsf.share; have k2 := hsf.sum; have k3 := hsf.big; have k4 := hsf.grow; have k5 := hsf.slot; simp_all; omega)
                        · intro h12
                          try rw [Decidable.not_not] at h12
                          try have hc : code.length ≤ 1048576 := by simp at h12; omega
                          try have hsf := shareF (c := x) (n := n) (by assumption) (by assumption) (by assumption)
                          try have hb0 := bound_no (c := x) (n := n) (.inl (by assumption))
                          try have hb0 := bound_no (c := x) (n := n) (.inr (.inl (by assumption)))
                          try have hb0 := bound_no (c := x) (n := n) (.inr (.inr (by assumption)))
                          refine s_gF rfl ?_
                          refine s_gF rfl ?_
                          refine s_gF rfl ?_
                          refine s_gF rfl ?_
                          refine s_keepO (is := [3, 78, 80, 82]) rfl ?_
                          refine s_gF rfl ?_
                          refine s_op (o_pickF rfl rfl) ?_
                          refine s_op (o_mv rfl) ?_
                          refine s_gF rfl ?_
                          refine s_gF rfl ?_
                          refine s_gF rfl ?_
                          refine s_gF rfl ?_
                          refine s_gF rfl ?_
                          refine s_op (o_pickF rfl rfl) ?_
                          refine s_op (o_mv rfl) ?_
                          refine s_nilO ?_
                          refine q_seqN ?_
                          refine s_keep [2] rfl ?_
                          refine s_ret ?_
                          refine ret_leaf (.inr rfl) rfl rfl ?_
                          refine congrArg (fun b => V.w (.bool b)) ?_
                          first | (simp_all; done) | (have k1 := hsf.share; have k2 := hsf.sum; have k3 := hsf.big; have k4 := hsf.grow; have k5 := hsf.slot; simp_all; done) | (have k1 := hsf.share; have k2 := hsf.sum; have k3 := hsf.big; have k4 := hsf.grow; have k5 := hsf.slot; simp_all; omega)
                      · intro h11
                        try rw [Decidable.not_not] at h11
                        try have hc : code.length ≤ 1048576 := by simp at h11; omega
                        try have hsf := shareF (c := x) (n := n) (by assumption) (by assumption) (by assumption)
                        try have hb0 := bound_no (c := x) (n := n) (.inl (by assumption))
                        try have hb0 := bound_no (c := x) (n := n) (.inr (.inl (by assumption)))
                        try have hb0 := bound_no (c := x) (n := n) (.inr (.inr (by assumption)))
                        refine s_gF rfl ?_
                        refine s_gF rfl ?_
                        refine s_gF rfl ?_
                        refine s_gF rfl ?_
                        refine s_gF rfl ?_
                        refine s_gF rfl ?_
                        refine s_gT rfl ?_
                        refine s_op (o_pickT rfl rfl) ?_
                        refine s_op (o_pickT rfl rfl) ?_
                        refine s_op (o_mv rfl) ?_
                        refine s_gT rfl ?_
                        refine s_op (o_ldnC rfl rfl rfl) ?_
                        refine s_gT rfl ?_
                        first | refine s_call rfl rfl (c_74 x) ?_ | refine s_callL rfl rfl (by simp) (c_74 x) rfl ?_
                        refine s_gT rfl ?_
                        refine s_op (o_ldnC rfl rfl rfl) ?_
                        refine s_gT rfl ?_
                        first | refine s_call rfl rfl (c_37 x) ?_ | refine s_callL rfl rfl (by simp) (c_37 x) rfl ?_
                        refine s_keepO (is := [3, 78, 80, 82]) rfl ?_
                        refine s_gT rfl ?_
                        first | refine s_op (o_gtr rfl rfl) ?_ | refine s_op (o_bin rfl rfl rfl rfl) ?_
                        refine s_op (o_pickT rfl rfl) ?_
                        refine s_op (o_mv rfl) ?_
                        first | refine s_gDT rfl ?_ ?_ | refine s_gNDT rfl ?_ ?_ | refine s_gNT rfl ?_ ?_ | refine s_gB rfl ?_ ?_
                        · intro h14
                          try rw [Decidable.not_not] at h14
                          try have hc : code.length ≤ 1048576 := by simp at h14; omega
                          try have hsf := shareF (c := x) (n := n) (by assumption) (by assumption) (by assumption)
                          try have hb0 := bound_no (c := x) (n := n) (.inl (by assumption))
                          try have hb0 := bound_no (c := x) (n := n) (.inr (.inl (by assumption)))
                          try have hb0 := bound_no (c := x) (n := n) (.inr (.inr (by assumption)))
                          refine s_op (o_ldnC rfl rfl rfl) ?_
                          refine s_gT rfl ?_
                          first | refine s_call rfl rfl (c_44 x (by omega)) ?_ | refine s_callL rfl rfl (by simp) (c_44 x (by omega)) rfl ?_
                          refine s_gT rfl ?_
                          refine s_op (o_ldnC rfl rfl rfl) ?_
                          refine s_gT rfl ?_
                          first | refine s_call rfl rfl (c_197 x (by omega)) ?_ | refine s_callL rfl rfl (by simp) (c_197 x (by omega)) rfl ?_
                          refine s_gT rfl ?_
                          first | refine s_op (o_eql rfl rfl) ?_ | refine s_op (o_bin rfl rfl rfl rfl) ?_
                          refine s_op (o_pickT rfl rfl) ?_
                          refine s_op (o_mv rfl) ?_
                          refine s_nilO ?_
                          refine q_seqN ?_
                          refine s_keep [2] rfl ?_
                          refine s_ret ?_
                          refine ret_leaf (.inr rfl) rfl rfl ?_
                          refine congrArg (fun b => V.w (.bool b)) ?_
                          first | (simp_all; done) | (have k1 := hsf.share; have k2 := hsf.sum; have k3 := hsf.big; have k4 := hsf.grow; have k5 := hsf.slot; simp_all; done) | (have k1 := hsf.share; have k2 := hsf.sum; have k3 := hsf.big; have k4 := hsf.grow; have k5 := hsf.slot; simp_all; omega)
                        · intro h14
                          try rw [Decidable.not_not] at h14
                          try have hc : code.length ≤ 1048576 := by simp at h14; omega
                          try have hsf := shareF (c := x) (n := n) (by assumption) (by assumption) (by assumption)
                          try have hb0 := bound_no (c := x) (n := n) (.inl (by assumption))
                          try have hb0 := bound_no (c := x) (n := n) (.inr (.inl (by assumption)))
                          try have hb0 := bound_no (c := x) (n := n) (.inr (.inr (by assumption)))
                          refine s_gF rfl ?_
                          refine s_gF rfl ?_
                          refine s_gF rfl ?_
                          refine s_gF rfl ?_
                          refine s_gF rfl ?_
                          refine s_op (o_pickF rfl rfl) ?_
                          refine s_op (o_mv rfl) ?_
                          refine s_nilO ?_
                          refine q_seqN ?_
                          refine s_keep [2] rfl ?_
                          refine s_ret ?_
                          refine ret_leaf (.inr rfl) rfl rfl ?_
                          refine congrArg (fun b => V.w (.bool b)) ?_
                          first | (simp_all; done) | (have k1 := hsf.share; have k2 := hsf.sum; have k3 := hsf.big; have k4 := hsf.grow; have k5 := hsf.slot; simp_all; done) | (have k1 := hsf.share; have k2 := hsf.sum; have k3 := hsf.big; have k4 := hsf.grow; have k5 := hsf.slot; simp_all; omega)
                    · intro h10
                      try rw [Decidable.not_not] at h10
                      try have hc : code.length ≤ 1048576 := by simp at h10; omega
                      try have hsf := shareF (c := x) (n := n) (by assumption) (by assumption) (by assumption)
                      try have hb0 := bound_no (c := x) (n := n) (.inl (by assumption))
                      try have hb0 := bound_no (c := x) (n := n) (.inr (.inl (by assumption)))
                      try have hb0 := bound_no (c := x) (n := n) (.inr (.inr (by assumption)))
                      refine s_gF rfl ?_
                      refine s_gF rfl ?_
                      refine s_keepO (is := [3, 4, 5, 66, 68]) rfl ?_
                      refine s_gF rfl ?_
                      refine s_gN rfl ?_
                      refine s_gN rfl ?_
                      refine s_gN rfl ?_
                      refine s_gN rfl ?_
                      refine s_gN rfl ?_
                      refine s_gN rfl ?_
                      refine s_gF rfl ?_
                      refine s_op (o_pickF rfl rfl) ?_
                      refine s_op (o_mv rfl) ?_
                      refine s_gF rfl ?_
                      refine s_gF rfl ?_
                      refine s_gF rfl ?_
                      refine s_gF rfl ?_
                      refine s_keepO (is := [3, 78, 80, 82]) rfl ?_
                      refine s_gF rfl ?_
                      refine s_op (o_pickF rfl rfl) ?_
                      refine s_op (o_mv rfl) ?_
                      refine s_gF rfl ?_
                      refine s_gF rfl ?_
                      refine s_gF rfl ?_
                      refine s_gF rfl ?_
                      refine s_gF rfl ?_
                      refine s_op (o_pickF rfl rfl) ?_
                      refine s_op (o_mv rfl) ?_
                      refine s_nilO ?_
                      refine q_seqN ?_
                      refine s_keep [2] rfl ?_
                      refine s_ret ?_
                      refine ret_leaf (.inr rfl) rfl rfl ?_
                      refine congrArg (fun b => V.w (.bool b)) ?_
                      first | (simp_all; done) | (have k1 := hsf.share; have k2 := hsf.sum; have k3 := hsf.big; have k4 := hsf.grow; have k5 := hsf.slot; simp_all; done) | (have k1 := hsf.share; have k2 := hsf.sum; have k3 := hsf.big; have k4 := hsf.grow; have k5 := hsf.slot; simp_all; omega)
                  · intro h9
                    try rw [Decidable.not_not] at h9
                    try have hc : code.length ≤ 1048576 := by simp at h9; omega
                    try have hsf := shareF (c := x) (n := n) (by assumption) (by assumption) (by assumption)
                    try have hb0 := bound_no (c := x) (n := n) (.inl (by assumption))
                    try have hb0 := bound_no (c := x) (n := n) (.inr (.inl (by assumption)))
                    try have hb0 := bound_no (c := x) (n := n) (.inr (.inr (by assumption)))
                    refine s_gF rfl ?_
                    refine s_gF rfl ?_
                    refine s_gF rfl ?_
                    refine s_gF rfl ?_
                    refine s_gF rfl ?_
                    refine s_gF rfl ?_
                    refine s_gF rfl ?_
                    refine s_op (o_pickF rfl rfl) ?_
                    refine s_op (o_mv rfl) ?_
                    refine s_gF rfl ?_
                    refine s_gF rfl ?_
                    refine s_keepO (is := [3, 4, 5, 66, 68]) rfl ?_
                    refine s_gF rfl ?_
                    refine s_gN rfl ?_
                    refine s_gN rfl ?_
                    refine s_gN rfl ?_
                    refine s_gN rfl ?_
                    refine s_gN rfl ?_
                    refine s_gN rfl ?_
                    refine s_gF rfl ?_
                    refine s_op (o_pickF rfl rfl) ?_
                    refine s_op (o_mv rfl) ?_
                    refine s_gF rfl ?_
                    refine s_gF rfl ?_
                    refine s_gF rfl ?_
                    refine s_gF rfl ?_
                    refine s_keepO (is := [3, 78, 80, 82]) rfl ?_
                    refine s_gF rfl ?_
                    refine s_op (o_pickF rfl rfl) ?_
                    refine s_op (o_mv rfl) ?_
                    refine s_gF rfl ?_
                    refine s_gF rfl ?_
                    refine s_gF rfl ?_
                    refine s_gF rfl ?_
                    refine s_gF rfl ?_
                    refine s_op (o_pickF rfl rfl) ?_
                    refine s_op (o_mv rfl) ?_
                    refine s_nilO ?_
                    refine q_seqN ?_
                    refine s_keep [2] rfl ?_
                    refine s_ret ?_
                    refine ret_leaf (.inr rfl) rfl rfl ?_
                    refine congrArg (fun b => V.w (.bool b)) ?_
                    first | (simp_all; done) | (have k1 := hsf.share; have k2 := hsf.sum; have k3 := hsf.big; have k4 := hsf.grow; have k5 := hsf.slot; simp_all; done) | (have k1 := hsf.share; have k2 := hsf.sum; have k3 := hsf.big; have k4 := hsf.grow; have k5 := hsf.slot; simp_all; omega)
              · intro h7
                try rw [Decidable.not_not] at h7
                try have hc : code.length ≤ 1048576 := by simp at h7; omega
                try have hsf := shareF (c := x) (n := n) (by assumption) (by assumption) (by assumption)
                try have hb0 := bound_no (c := x) (n := n) (.inl (by assumption))
                try have hb0 := bound_no (c := x) (n := n) (.inr (.inl (by assumption)))
                try have hb0 := bound_no (c := x) (n := n) (.inr (.inr (by assumption)))
                refine s_gF rfl ?_
                refine s_gF rfl ?_
                refine s_op (o_pickT rfl rfl) ?_
                refine s_nilO ?_
                refine q_seqN ?_
                refine s_keep [3, 4, 5, 52] rfl ?_
                refine s_condT rfl ?_
                refine S_seq ?_
                refine s_rg ?_
                refine s_op (o_mv rfl) ?_
                first | refine s_op (o_eql rfl rfl) ?_ | refine s_op (o_bin rfl rfl rfl rfl) ?_
                refine s_op (o_mv rfl) ?_
                refine s_nilO ?_
                refine q_seqN ?_
                refine s_keep [2] rfl ?_
                refine s_ret ?_
                refine q_seqR ?_
                refine ret_leaf (.inr rfl) rfl rfl ?_
                refine congrArg (fun b => V.w (.bool b)) ?_
                first | (simp_all; done) | (have k1 := hsf.share; have k2 := hsf.sum; have k3 := hsf.big; have k4 := hsf.grow; have k5 := hsf.slot; simp_all; done) | (have k1 := hsf.share; have k2 := hsf.sum; have k3 := hsf.big; have k4 := hsf.grow; have k5 := hsf.slot; simp_all; omega)
            · intro h6
              try rw [Decidable.not_not] at h6
              try have hc : code.length ≤ 1048576 := by simp at h6; omega
              try have hsf := shareF (c := x) (n := n) (by assumption) (by assumption) (by assumption)
              try have hb0 := bound_no (c := x) (n := n) (.inl (by assumption))
              try have hb0 := bound_no (c := x) (n := n) (.inr (.inl (by assumption)))
              try have hb0 := bound_no (c := x) (n := n) (.inr (.inr (by assumption)))
              refine s_gF rfl ?_
              refine s_gF rfl ?_
              refine s_op (o_pickT rfl rfl) ?_
              refine s_op (o_mv rfl) ?_
              refine s_gF rfl ?_
              refine s_gF rfl ?_
              refine s_op (o_pickT rfl rfl) ?_
              refine s_nilO ?_
              refine q_seqN ?_
              refine s_keep [3, 4, 5, 52] rfl ?_
              refine s_condT rfl ?_
              refine S_seq ?_
              refine s_rg ?_
              refine s_op (o_mv rfl) ?_
              first | refine s_op (o_eql rfl rfl) ?_ | refine s_op (o_bin rfl rfl rfl rfl) ?_
              refine s_op (o_mv rfl) ?_
              refine s_nilO ?_
              refine q_seqN ?_
              refine s_keep [2] rfl ?_
              refine s_ret ?_
              refine q_seqR ?_
              refine ret_leaf (.inr rfl) rfl rfl ?_
              refine congrArg (fun b => V.w (.bool b)) ?_
              first | (simp_all; done) | (have k1 := hsf.share; have k2 := hsf.sum; have k3 := hsf.big; have k4 := hsf.grow; have k5 := hsf.slot; simp_all; done) | (have k1 := hsf.share; have k2 := hsf.sum; have k3 := hsf.big; have k4 := hsf.grow; have k5 := hsf.slot; simp_all; omega)
        · intro h4
          try rw [Decidable.not_not] at h4
          try have hc : code.length ≤ 1048576 := by simp at h4; omega
          try have hsf := shareF (c := x) (n := n) (by assumption) (by assumption) (by assumption)
          try have hb0 := bound_no (c := x) (n := n) (.inl (by assumption))
          try have hb0 := bound_no (c := x) (n := n) (.inr (.inl (by assumption)))
          try have hb0 := bound_no (c := x) (n := n) (.inr (.inr (by assumption)))
          refine s_gF rfl ?_
          refine s_gF rfl ?_
          refine s_gF rfl ?_
          refine s_gF rfl ?_
          refine s_gF rfl ?_
          refine s_op (o_pickT rfl rfl) ?_
          refine s_nilO ?_
          refine q_seqN ?_
          refine s_keep [3, 4, 5, 41] rfl ?_
          refine s_condT rfl ?_
          refine S_seq ?_
          refine s_rg ?_
          refine s_op (o_mv rfl) ?_
          refine s_nilO ?_
          refine q_seqN ?_
          refine s_keep [2] rfl ?_
          refine s_ret ?_
          refine q_seqR ?_
          refine ret_leaf (.inr rfl) rfl rfl ?_
          refine congrArg (fun b => V.w (.bool b)) ?_
          first | (simp_all; done) | (have k1 := hsf.share; have k2 := hsf.sum; have k3 := hsf.big; have k4 := hsf.grow; have k5 := hsf.slot; simp_all; done) | (have k1 := hsf.share; have k2 := hsf.sum; have k3 := hsf.big; have k4 := hsf.grow; have k5 := hsf.slot; simp_all; omega)
      · intro h3
        try rw [Decidable.not_not] at h3
        try have hc : code.length ≤ 1048576 := by simp at h3; omega
        try have hsf := shareF (c := x) (n := n) (by assumption) (by assumption) (by assumption)
        try have hb0 := bound_no (c := x) (n := n) (.inl (by assumption))
        try have hb0 := bound_no (c := x) (n := n) (.inr (.inl (by assumption)))
        try have hb0 := bound_no (c := x) (n := n) (.inr (.inr (by assumption)))
        refine s_gF rfl ?_
        refine s_keepO (is := [3, 4, 5, 28, 29]) rfl ?_
        refine s_gF rfl ?_
        refine s_gF rfl ?_
        refine s_gF rfl ?_
        refine s_gF rfl ?_
        refine s_op (o_pickT rfl rfl) ?_
        refine s_op (o_mv rfl) ?_
        refine s_gF rfl ?_
        refine s_gF rfl ?_
        refine s_gF rfl ?_
        refine s_gF rfl ?_
        refine s_gF rfl ?_
        refine s_op (o_pickT rfl rfl) ?_
        refine s_nilO ?_
        refine q_seqN ?_
        refine s_keep [3, 4, 5, 41] rfl ?_
        refine s_condT rfl ?_
        refine S_seq ?_
        refine s_rg ?_
        refine s_op (o_mv rfl) ?_
        refine s_nilO ?_
        refine q_seqN ?_
        refine s_keep [2] rfl ?_
        refine s_ret ?_
        refine q_seqR ?_
        refine ret_leaf (.inr rfl) rfl rfl ?_
        refine congrArg (fun b => V.w (.bool b)) ?_
        first | (simp_all; done) | (have k1 := hsf.share; have k2 := hsf.sum; have k3 := hsf.big; have k4 := hsf.grow; have k5 := hsf.slot; simp_all; done) | (have k1 := hsf.share; have k2 := hsf.sum; have k3 := hsf.big; have k4 := hsf.grow; have k5 := hsf.slot; simp_all; omega)
    · intro h2
      try rw [Decidable.not_not] at h2
      try have hc : code.length ≤ 1048576 := by simp at h2; omega
      try have hsf := shareF (c := x) (n := n) (by assumption) (by assumption) (by assumption)
      try have hb0 := bound_no (c := x) (n := n) (.inl (by assumption))
      try have hb0 := bound_no (c := x) (n := n) (.inr (.inl (by assumption)))
      try have hb0 := bound_no (c := x) (n := n) (.inr (.inr (by assumption)))
      refine s_gF rfl ?_
      refine s_gF rfl ?_
      refine s_gF rfl ?_
      refine s_gF rfl ?_
      refine s_gF rfl ?_
      refine s_op (o_pickT rfl rfl) ?_
      refine s_op (o_mv rfl) ?_
      refine s_gF rfl ?_
      refine s_keepO (is := [3, 4, 5, 28, 29]) rfl ?_
      refine s_gF rfl ?_
      refine s_gF rfl ?_
      refine s_gF rfl ?_
      refine s_gF rfl ?_
      refine s_op (o_pickT rfl rfl) ?_
      refine s_op (o_mv rfl) ?_
      refine s_gF rfl ?_
      refine s_gF rfl ?_
      refine s_gF rfl ?_
      refine s_gF rfl ?_
      refine s_gF rfl ?_
      refine s_op (o_pickT rfl rfl) ?_
      refine s_nilO ?_
      refine q_seqN ?_
      refine s_keep [3, 4, 5, 41] rfl ?_
      refine s_condT rfl ?_
      refine S_seq ?_
      refine s_rg ?_
      refine s_op (o_mv rfl) ?_
      refine s_nilO ?_
      refine q_seqN ?_
      refine s_keep [2] rfl ?_
      refine s_ret ?_
      refine q_seqR ?_
      refine ret_leaf (.inr rfl) rfl rfl ?_
      refine congrArg (fun b => V.w (.bool b)) ?_
      first | (simp_all; done) | (have k1 := hsf.share; have k2 := hsf.sum; have k3 := hsf.big; have k4 := hsf.grow; have k5 := hsf.slot; simp_all; done) | (have k1 := hsf.share; have k2 := hsf.sum; have k3 := hsf.big; have k4 := hsf.grow; have k5 := hsf.slot; simp_all; omega)

end Go.Proofs.Ytdlkgdlefbabcaa.AL
